/- Walks and plain laws, merged: WorA IntD IntE IntF IntG EvlT EvlL. No condition. -/
import Derived.Test.YtlabadkfkbenoaaGreatDoorKm14
import Derived.Test.YtlabadkfkbenoaaGreatDoorKm16
import Derived.Test.YtlabadkfkbenoaaGreatDoorKm15
namespace Go.Proofs.YtlabadkfkbenoaaGreatDoor
open Go.RowKit
set_option linter.unusedVariables false
set_option linter.unusedSimpArgs false
set_option maxRecDepth 100000
set_option maxHeartbeats 64000000
section
open Go.Shelf
/-! ### places of variables -/
theorem gatG_pl (N : Nat) : ∀ (gs : List GH) (v0 vs : VS) (k : Nat) (l0 : List (ByteArray × Int)), gatG gs v0 = some vs → k + gs.length ≤ N → (∀ s x, getM s v0 = some x → ∃ i : Nat, getM s l0 = some (i : Int) ∧ i < N) → ∀ s x, getM s vs = some x → ∃ i : Nat, getM s (plG gs k l0) = some (i : Int) ∧ i < N
 | [], v0, vs, k, l0, h, _, h0, s, x, hx => by
  cases h
  exact h0 s x hx
 | g :: r, v0, vs, k, l0, h, hk, h0, s, x, hx => by
  simp only [gatG] at h
  split at h
  ·cases h
  simp only [List.length_cons] at hk
  refine gatG_pl N r _ vs (k + 1) _ h (by omega) (fun s x hx => ?_) s x hx
  rw [getM_putM] at hx ⊢
  split at hx
  ·rename_i e
   rw [if_pos e]
   exact ⟨k, rfl, by omega⟩
  ·rename_i e
   rw [if_neg e]
   exact h0 s x hx
theorem gatU_parts {u : UT} {vs : VS} {cs : CSg} (h : gatU u = some (vs, cs)) : gatG u.gs [] = some vs ∧ ∃ c1, gatH u.hs 0 vs [] = some c1 ∧ gatF u.fs 0 vs c1 = some cs := by
 unfold gatU at h
 split at h
 ·cases h
 ·rename_i v2 h0
  split at h
  ·cases h
  ·rename_i c1 h1
   split at h
   ·cases h
   ·rename_i c2 h2
    cases h
    exact ⟨h0, c1, h1, h2⟩
/-! ### signatures -/
def SgOk (u : UT) (s : ByteArray) (g : Sig) : Prop :=
 (g.host < 0 → 0 ≤ g.fn ∧ ∃ f, u.fs[g.fn.toNat]? = some f ∧ f.params = g.params ∧ f.name = s ∧ f.type = g.type) ∧ (¬ g.host < 0 → ∃ h, u.hs[g.host.toNat]? = some h ∧ h.params = g.params ∧ h.name = s)
def CsOk (u : UT) (cs : CSg) : Prop := ∀ s g, getM s cs = some g → SgOk u s g
theorem CsOk.put {u : UT} {cs : CSg} (h : CsOk u cs) {t : ByteArray} {g : Sig} (hg : SgOk u t g) : CsOk u (putM t g cs) := by
 intro s x hx
 rw [getM_putM] at hx
 split at hx
 ·rename_i e
  cases hx
  have : s = t := (MapKept.bytes_beq s t).1 e
  rw [this]
  exact hg
 ·exact h s x hx
theorem gatH_ok {u : UT} {vs : VS} : ∀ {l : List HH} {i : Nat} {cs c2 : CSg}, l = u.hs.drop i → CsOk u cs → gatH l i vs cs = some c2 → CsOk u c2
 | [], _, _, _, _, h, e => by cases e; exact h
 | a :: r, i, cs, c2, hl, h, e => by
  simp only [gatH] at e
  split at e
  ·cases e
  have hi : u.hs[i]? = some a := by
   have : (u.hs.drop i)[0]? = some a := by rw [← hl]; rfl
   simpa using this
  refine gatH_ok (i := i + 1) ?_ (h.put (t := a.name) (g := ⟨a.params, a.type, i, -1⟩) ⟨fun q => ?_, fun _ => ⟨a, by simpa using hi, rfl, rfl⟩⟩) e
  ·rw [← List.drop_drop, ← hl]; rfl
  ·simp only [] at q; omega
theorem gatF_ok {u : UT} {vs : VS} : ∀ {l : List FH} {i : Nat} {cs c2 : CSg}, l = u.fs.drop i → CsOk u cs → gatF l i vs cs = some c2 → CsOk u c2
 | [], _, _, _, _, h, e => by cases e; exact h
 | a :: r, i, cs, c2, hl, h, e => by
  simp only [gatF] at e
  split at e
  ·cases e
  have hi : u.fs[i]? = some a := by
   have : (u.fs.drop i)[0]? = some a := by rw [← hl]; rfl
   simpa using this
  refine gatF_ok (i := i + 1) ?_ (h.put (t := a.name) (g := ⟨a.params, a.type, -1, i⟩) ⟨fun _ => ⟨by simp, a, by simpa using hi, rfl, rfl, rfl⟩, fun q => ?_⟩) e
  ·rw [← List.drop_drop, ← hl]; rfl
  ·simp only [] at q; omega
theorem gatU_ok {u : UT} {vs : VS} {cs : CSg} (h : gatU u = some (vs, cs)) : CsOk u cs := by
 obtain ⟨-, c1, h1, h2⟩ := gatU_parts h
 exact gatF_ok (by simp) (gatH_ok (by simp) (fun s g q => by cases q) h1) h2
/-! ### functions -/
theorem chFs_at {vs : VS} {cs : CSg} : ∀ {l : List FH}, chFs vs cs l = 0 → ∀ f ∈ l, chF vs cs f = 0
 | [], _, f, hf => by cases hf
 | a :: r, h, f, hf => by
  simp only [chFs] at h
  split at h
  ·rename_i h0
   rcases List.mem_cons.1 hf with rfl | hf
   ·exact h0
   ·exact chFs_at h f hf
  ·rename_i h0
   exact absurd h h0
theorem addPars_err (vs : VS) (cs : CSg) : ∀ (l : List PW) (sc : Scope) (e : Int), addPars vs cs l sc = .error e → e = 290
 | [], sc, e, h => by cases h
 | p :: r, sc, e, h => by
  simp only [addPars] at h
  split at h
  ·cases h; rfl
  ·exact addPars_err vs cs r _ e h
theorem chF_ok {vs : VS} {cs : CSg} {f : FH} (h : chF vs cs f = 0) : (∃ sc c, addPars vs cs f.params [] = .ok sc ∧ chS vs cs f.type f.body [sc] [] 0 = .ok c) ∧ retS f.body = true := by
 unfold chF at h
 split at h
 ·rename_i e he
  have := addPars_err _ _ _ _ _ he
  omega
 ·rename_i sc hsc
  split at h
  ·omega
  ·split at h
   ·rename_i e he
    have := chS_hi vs cs f.type f.body [sc] [] 0 e he
    omega
   ·rename_i c hc
    split at h
    ·rename_i hr
     exact ⟨⟨sc, c, hsc, hc⟩, hr⟩
    ·omega
theorem chkU_parts {u : UT} (h : chkU u = 0) : fitsU u = true ∧ u.fs.any deepB = false ∧ sumU u.fs ≤ 16384 := by
 unfold chkU at h
 split at h
 ·rename_i h1
  split at h
  ·omega
  ·rename_i h2
   split at h
   ·omega
   ·exact ⟨h1, by simpa using h2, by omega⟩
 ·omega
theorem fitsU_parts {u : UT} (h : fitsU u = true) : (∀ g ∈ u.gs, okGH g = true) ∧ (∀ x ∈ u.hs, okHo x = true) ∧ ∀ f ∈ u.fs, okFu f = true := by
 unfold fitsU at h
 simp only [Bool.and_eq_true, List.all_eq_true] at h
 exact ⟨h.1, h.2.1, h.2.2⟩
theorem okP_few {l : List PW} (h : okP l = true) : l.length ≤ 15 := by
 unfold okP at h
 simp only [Bool.and_eq_true, decide_eq_true_eq] at h
 exact h.2
theorem okFu_parts {f : FH} (h : okFu f = true) : f.params.length ≤ 15 ∧ okS f.body = true := by
 unfold okFu at h
 simp only [Bool.and_eq_true] at h
 exact ⟨okP_few h.2.2.1, h.2.2.2⟩
theorem okHo_few {x : HH} (h : okHo x = true) : x.params.length ≤ 15 := by
 unfold okHo at h
 simp only [Bool.and_eq_true] at h
 exact okP_few h.2.2.1
/-! ### the variables at first -/
theorem initG_ok {u : UT} (wf : u.Wf) (hs : senseU u = 0) {g : GH} (hg : g ∈ u.gs) : 0 < (initG g).length ∧ (initG g).length ≤ 4096 ∧ ∀ x ∈ initG g, U x := by
 obtain ⟨hc, -⟩ := sense_parts hs
 have h1 := fitsU_glo (chkU_parts hc).1 hg
 have h2 := wf.g g hg
 unfold initG
 split
 ·refine ⟨by simp; omega, by simp; omega, fun x hx => ?_⟩
  have := List.eq_of_mem_replicate hx
  subst this
  exact ⟨by omega, by omega⟩
 ·refine ⟨by simp, by simp, fun x hx => ?_⟩
  simp only [List.mem_singleton] at hx
  subst hx
  exact h2.2
def hdOf (hd : HD) (held : List (List Int)) : HD := List.zipWith (fun a ws => (a.1, ws)) hd held
theorem hc2_of : ∀ (hd : HD) (xs : List Value), hcells hd xs = hc2 (hd.map (·.1)) xs
 | [], [] => rfl
 | [], _ :: _ => rfl
 | _ :: _, [] => rfl
 | a :: r, x :: xs => by simp only [hcells, List.map_cons, hc2, hc2_of r xs]
theorem hdOf_names : ∀ (hd : HD) (held : List (List Int)), held.length = hd.length → (hdOf hd held).map (·.1) = hd.map (·.1)
 | [], [], _ => rfl
 | [], _ :: _, h => by simp at h
 | _ :: _, [], h => by simp at h
 | a :: r, x :: xs, h => by
  have := hdOf_names r xs (by simpa using h)
  unfold hdOf at this ⊢
  simp only [List.zipWith_cons_cons, List.map_cons, this]
theorem hdOf_held : ∀ (hd : HD) (held : List (List Int)), held.length = hd.length → (hdOf hd held).map (·.2) = held
 | [], [], _ => rfl
 | [], _ :: _, h => by simp at h
 | _ :: _, [], h => by simp at h
 | a :: r, x :: xs, h => by
  have := hdOf_held r xs (by simpa using h)
  unfold hdOf at this ⊢
  simp only [List.zipWith_cons_cons, List.map_cons, this]
theorem hdOf_len {hd : HD} {held : List (List Int)} (h : held.length = hd.length) : (hdOf hd held).length = hd.length := by
 have := congrArg List.length (hdOf_names hd held h)
 simpa using this
theorem hdOf_same : ∀ (hd : HD), hdOf hd (hd.map (·.2)) = hd
 | [] => rfl
 | a :: r => by
  have := hdOf_same r
  unfold hdOf at this ⊢
  simp only [List.map_cons, List.zipWith_cons_cons, this]
structure HdOk (u : UT) (hd : HD) : Prop where
 names : hd.map (·.1) = u.gs.map (·.name)
 lens : (hd.map (·.2)).map List.length = u.gs.map fun g => (initG g).length
 rg : ∀ q ∈ hd.map (·.2), ∀ x ∈ q, U x
theorem HdOk.len {u : UT} {hd : HD} (h : HdOk u hd) : hd.length = u.gs.length := by
 have := congrArg List.length h.names
 simpa using this
theorem HdOk.init {u : UT} (wf : u.Wf) (hs : senseU u = 0) : HdOk u (initH u.gs) := by
 refine ⟨by simp [initH], by simp [initH, Function.comp_def], fun q hq x hx => ?_⟩
 simp only [initH, List.map_map, List.mem_map, Function.comp] at hq
 obtain ⟨g, hg, rfl⟩ := hq
 exact (initG_ok wf hs hg).2.2 x hx
theorem HdOk.pos {u : UT} {hd : HD} (h : HdOk u hd) (wf : u.Wf) (hs : senseU u = 0) : ∀ q ∈ hd.map (·.2), 0 < q.length ∧ q.length ≤ 4096 := by
 intro q hq
 have h1 : q.length ∈ (hd.map (·.2)).map List.length := List.mem_map.2 ⟨q, hq, rfl⟩
 rw [h.lens] at h1
 obtain ⟨g, hg, e⟩ := List.mem_map.1 h1
 have := initG_ok wf hs hg
 omega
theorem HdOk.of {u : UT} {hd : HD} (h : HdOk u hd) {held : List (List Int)} (hl : held.map List.length = (hd.map (·.2)).map List.length) (hr : ∀ q ∈ held, ∀ x ∈ q, U x) : HdOk u (hdOf hd held) := by
 have hn : held.length = hd.length := by have := congrArg List.length hl; simpa using this
 exact ⟨(hdOf_names hd held hn).trans h.names, by rw [hdOf_held hd held hn, hl]; exact h.lens, by rw [hdOf_held hd held hn]; exact hr⟩
def own52 (xs : List Value) (b : Nat) : Prop := ∃ x ∈ xs, x.ownBlock = some b
def ValR (w : World) (n : Nat) (T : Nat → Prop) (values : List Int) (vv : Value) : Prop :=
 ∃ ka kb koff kcap, vv = .slice ka values.length kcap ∧ (values.length = 0 ∨ ka = some ⟨kb, koff, none⟩) ∧ (values.length = 0 ∨ (kb < n ∧ ¬ T kb)) ∧ ∀ i (h : i < values.length), w.cell? ⟨kb, koff + i, none⟩ = some (.int .u32 values[i])
theorem ValR.nil (w : World) (n : Nat) (T : Nat → Prop) : ValR w n T [] (.slice none 0 0) := ⟨none, 0, 0, 0, rfl, .inl rfl, .inl rfl, fun i h => by simp at h⟩
section
variable {w w' : World} {B : Nat} {u : UT} {vs : VS} {cs : CSg} {pl : List (ByteArray × Int)} {hd : HD} {xs : List Value} {X vb cb pb : Nat} {vg vh vf hv : Value}
theorem WoR.old (h : WoR w B u vs cs pl hd xs X vb cb pb vg vh vf hv) {b : Nat} (hb : b < B) : ¬ own52 xs b := by
 rintro ⟨x, hx, hq⟩
 obtain ⟨i, hi, rfl⟩ := List.getElem_of_mem hx
 have := own_from (h.held.rows i hi (by have := h.held.len; omega)) hq
 omega
theorem WoR.moveT (h : WoR w B u vs cs pl hd xs X vb cb pb vg vh vf hv) {T : Nat → Prop} (hk : Kpt T w.heap.size w w') (hT : ∀ b, b < B → ¬ T b) (hX : ¬ T X) (hH : ∀ b, hv.ownBlock = some b → ¬ T b) {held : List (List Int)} (hl : held.length = hd.length)
  (hw : ∀ i (h : i < xs.length) (h' : i < held.length), w'.ownsRow B 52 1 xs[i] held[i].length (held[i].map (Value.int .u32))) (hp : ∀ q ∈ held, 0 < q.length) : WoR w' B u vs cs pl (hdOf hd held) xs X vb cb pb vg vh vf hv := by
 have old : ∀ b, b < B → b < w.heap.size ∧ ¬ T b := fun b hb => ⟨by have := h.lB; omega, hT b hb⟩
 have hc : Cells (onlyW w (oldB B)) (onlyW w' (oldB B)) := hk.cells fun b hb => old b (by simpa using hb)
 have mv : ∀ {b l}, b < B → Mp (onlyW w (oldB B)) b l → Mp (onlyW w' (oldB B)) b l := fun {b l} hb hq => map_only (hk.map (map_whole hq (by simpa using hb)) (old b hb).1 (old b hb).2) (by simpa using hb)
 obtain ⟨c1, l, c2, c3⟩ := h.nm
 have e2 := hdOf_held hd held hl
 have hlen := h.held.len
 refine ⟨hk.box h.box h.lX hX, h.unit.sub hc, ⟨mv h.lv c1, l, mv h.lc c2, c3.sub hc⟩, ⟨by rw [hdOf_len hl]; exact hlen, ?_, fun i h1 h2 => ?_, fun i h2 => ?_, h.held.nd⟩, hk.map h.place (old _ h.lp).1 (old _ h.lp).2, Nat.lt_of_lt_of_le h.lX hk.size, h.lv, h.lc, h.lp, Nat.le_trans h.lB hk.size⟩
 ·rw [hdOf_len hl, hc2_of, hdOf_names hd held hl, ← hc2_of]
  exact hk.own h.held.row fun b hb => ⟨(h.held.row.lt b hb).2, hH b hb⟩
 ·have h3 : i < held.length := by rw [hdOf_len hl] at h2; omega
  have e3 : (hdOf hd held)[i].2 = held[i] := by
   have : ((hdOf hd held).map (·.2))[i]'(by simpa using h2) = held[i] := by simp only [e2]
   simpa using this
  rw [e3]
  exact hw i h1 h3
 ·have h3 : i < held.length := by rw [hdOf_len hl] at h2; omega
  have e3 : (hdOf hd held)[i].2 = held[i] := by
   have : ((hdOf hd held).map (·.2))[i]'(by simpa using h2) = held[i] := by simp only [e2]
   simpa using this
  rw [e3]
  exact hp _ (List.getElem_mem h3)
theorem WoR.rowOut (h : WoR w B u vs cs pl hd xs X vb cb pb vg vh vf hv) {B2 : Nat} {hd2 : HD} {xs2 : List Value} {v2 : Value} (h2 : HeldR w B2 hd2 xs2 v2) {b : Nat} (hb : hv.ownBlock = some b) : ¬ own52 xs2 b := by
 rintro ⟨x, hx, hq⟩
 obtain ⟨i, hi, rfl⟩ := List.getElem_of_mem hx
 rcases row_ne h.held.row (h2.rows i hi (by have := h2.len; omega)) (by decide) with e | e
 ·rw [e] at hb; cases hb
 ·exact e (by rw [hb, hq])
theorem WoR.move (h : WoR w B u vs cs pl hd xs X vb cb pb vg vh vf hv) (hk : Kpt (own52 xs) w.heap.size w w') {held : List (List Int)} (hl : held.length = hd.length)
  (hw : ∀ i (h : i < xs.length) (h' : i < held.length), w'.ownsRow B 52 1 xs[i] held[i].length (held[i].map (Value.int .u32))) (hp : ∀ q ∈ held, 0 < q.length) : WoR w' B u vs cs pl (hdOf hd held) xs X vb cb pb vg vh vf hv :=
 h.moveT hk (fun b hb => h.old hb) (fun ⟨x, hx, hq⟩ => (h.held.box h.box (by decide) (by decide)).2 x hx hq.symm) (fun b hb => h.rowOut h.held hb) hl hw hp
theorem held_at {i : Nat} {hd : HD} (h : i < (hd.map (·.2)).length) : (hd.map (·.2))[i] = (hd[i]'(by simpa using h)).2 := by simp
theorem WoR.on (h : WoR w B u vs cs pl hd xs X vb cb pb vg vh vf hv) (hb : Below w.heap.size w w') : WoR w' B u vs cs pl hd xs X vb cb pb vg vh vf hv := by
 have h2 := h.move (w' := w') (held := hd.map (·.2)) (Kpt.of hb) (by simp) (fun i h1 h2 => by
  rw [held_at]
  exact ownsRow_at (h.held.rows i h1 (by simpa using h2)) hb) (fun q hq => by
  obtain ⟨a, ha, rfl⟩ := List.mem_map.1 hq
  obtain ⟨i, hi, rfl⟩ := List.getElem_of_mem ha
  exact h.held.pos i hi)
 rwa [hdOf_same] at h2
theorem WoR.far (h : WoR w B u vs cs pl hd xs X vb cb pb vg vh vf hv) {n : Nat} (hn : n ≤ B) (hk : Kpt (own52 xs) w.heap.size w w') : Below n w w' :=
 ⟨hk.os, hk.tape, hk.output, hk.size, fun b hb => hk.block b (by have := h.lB; omega) (h.old (by omega))⟩
end
end
section
open Go.Shelf
theorem row_shape {w : World} {base : Nat} {e : TypeId} {size k : Nat} {v : Value} {ys : List Value} (h : w.ownsRow base e size v k ys) (hk : 0 < k) : ∃ g cap, v = .slice (some ⟨g, 0, none⟩) k cap ∧ k ≤ cap ∧ cap ≤ maxLen := by
 rcases h.2 with ⟨_, q⟩ | ⟨g, cap, cur, rfl, _, _, h1, h2, _⟩
 ·omega
 ·exact ⟨g, cap, rfl, h1, h2⟩
def rowB (v : Value) : Nat := match v.ownBlock with | some b => b | none => 0
theorem zero3 (w : World) : (zeroValue 3).run Tryz.prog w = .ok (.int .i64 0) w := by kernel_rfl
theorem spot76_l (p : Pt) (n F : Nat) (fb : List BSc) (g cap : Nat) (ms : List Nat) (s : ByteArray) (x : (Int × Int) × Nat) (w : World) (hF : FrR w n F fb g cap ms) (hx : seesB s fb = some x) :
  Calls Tryz.prog 76 #[.pointer (some ⟨p.M, 0, none⟩), .pointer (some ⟨F, 0, none⟩), .string s] w fun e w' => e = .returned (.tuple #[.pointer (some ⟨x.2, 0, none⟩), .int .u8 x.1.1]) ∧ Below w.heap.size w w' := by
 have c1 := hid (find115 s n F fb g cap ms w hF)
 rw [hx] at c1
 obtain ⟨sc, h1, h2⟩ := seesB_mem hx
 have hb := hF.boxes sc h1 _ h2
 have b1 : w.drew.cell? ⟨x.2, 1, none⟩ = some (.int .u8 x.1.1) := by simpa using hb.cell 1
 clear hF hx h1 h2 hb
 obtain ⟨⟨t, v⟩, q⟩ := x
 simp only [Option.map_some, Option.getD_some] at c1 b1 ⊢
 go_enter Tryz.func76, Tryz.ntmps76
 go_wp2_with fail
 refine c1.out.mono ?_
 rintro e w2 ⟨rfl, hw⟩
 subst w2
 clear c1
 go_wp2_with fail
 go_region
 go_wp2_with fail
 go_ret2
 exact ⟨rfl, (Below.refl _ _).drew⟩
theorem spot76_g (p : Pt) (cf : Cf) (u : UT) (a n d : Nat) (m : MS) (ve : EvS) (F : Nat) (fb : List BSc) (g cap : Nat) (ms : List Nat) (s : ByteArray) (t ln : Int) (i : Nat) (w : World) (hS : MSt p cf u n w) (hM : MeR p a n d m ve w) (hF : FrR w n F fb g cap ms) (hx : seesB s fb = none)
  (hv : getM s cf.vs = some (t, ln)) (hp : getM s cf.pl = some (i : Int)) (hi : i < p.xs.length) (h0 : ∀ q ∈ m.held, 0 < q.length) :
  Calls Tryz.prog 76 #[.pointer (some ⟨p.M, 0, none⟩), .pointer (some ⟨F, 0, none⟩), .string s] w fun e w' => e = .returned (.tuple #[.pointer (some ⟨rowB p.xs[i], 0, none⟩), .int .u8 t]) ∧ Below w.heap.size w w' := by
 have c1 := hid (find115 s n F fb g cap ms w hF)
 rw [hx] at c1
 obtain ⟨en, va, fa, hb⟩ := hM.box
 have hi2 : i < m.held.length := by have := hM.len; omega
 have hw := hM.words i hi hi2
 obtain ⟨gx, cx, e1, k1, k2⟩ := row_shape hw (h0 _ (List.getElem_mem hi2))
 have hl0 := h0 _ (List.getElem_mem hi2)
 generalize m.held[i].length = lw at e1 k1 hl0
 obtain ⟨gh, ch, e2, k3, k4⟩ := row_shape hS.held (by omega)
 have hr : rowB p.xs[i] = gx := by rw [e1]; rfl
 rw [hr]
 have hh := hS.held
 rw [e2] at hh
 have b0 : w.drew.cell? ⟨p.M, 0, none⟩ = some (.pointer (some ⟨p.X, 0, none⟩)) := by simpa using hb.cell 0
 have x3 : w.drew.cell? ⟨p.X, 3, none⟩ = some (.map (some p.vb)) := by simpa using hS.X.cell 3
 have x5 : w.drew.cell? ⟨p.X, 5, none⟩ = some (.slice (some ⟨gh, 0, none⟩) p.xs.length ch) := by simpa [e2] using hS.X.cell 5
 have x6 : w.drew.cell? ⟨p.X, 6, none⟩ = some (.map (some p.pb)) := by simpa using hS.X.cell 6
 have r1 : w.drew.cell? ⟨gh, i * 2 + 1, none⟩ = some (.slice (some ⟨gx, 0, none⟩) lw cx) := by
  have := hh.cellAt (i * 2 + 1) (by omega)
  rw [hc2_at _ _ i hi hS.hlen, e1] at this
  exact this
 have l1 := (hS.place.mono (Below.refl _ _).drew).lookup under92 under9 s _ (zero3 w.drew) false
 rw [getM_map (Value.int .i64), hp] at l1
 have l2 := ((map_whole hS.nm.vars (by simpa using hS.lv)).mono (Below.refl _ _).drew).lookup under88 under9 s _ (zero155 w.drew) false
 rw [getM_map varv, hv] at l2
 simp only [Option.map_some, Option.getD_some, Bool.false_eq_true, if_false, varv] at l1 l2
 have hfd : (Instr.field 155 (.agg #[.int .u8 t, .int .u32 ln]) 0).run Tryz.prog w.drew = .ok (.int .u8 t) w.drew := by kernel_rfl
 clear hS hM hF hx hv hp h0 hw e1 e2 hb hh hr
 go_enter Tryz.func76, Tryz.ntmps76
 go_wp2_with fail
 refine c1.out.mono ?_
 rintro e w2 ⟨rfl, hw⟩
 subst w2
 clear c1
 go_wp2_with fail
 go_region
 go_wp2_with fail
 go_ret2
 exact ⟨rfl, (Below.refl _ _).drew⟩
end
section
open Go.Shelf
def elOut (lw : List Int) (gx : Nat) (i : Int) : Ending := if (lw.length : Int) ≤ i then endE 2 1 else .returned (.pointer (some ⟨gx, i.toNat, none⟩))
theorem element78 (p : Pt) (cf : Cf) (u : UT) (a n d : Nat) (m : MS) (ve : EvS) (s : ByteArray) (i : Nat) (j : Int) (w : World) (hS : MSt p cf u n w) (hM : MeR p a n d m ve w)
  (hp : getM s cf.pl = some (i : Int)) (hi : i < p.xs.length) (hi2 : i < m.held.length) (h0 : 0 < m.held[i].length) (hl : m.held[i].length ≤ 4096) (hj : 0 ≤ j ∧ j < 4294967296) :
  Calls Tryz.prog 78 #[.pointer (some ⟨p.M, 0, none⟩), .string s, .int .u32 j] w fun e w' => e = elOut m.held[i] (rowB p.xs[i]) j ∧ Below w.heap.size w w' := by
 obtain ⟨en, va, fa, hb⟩ := hM.box
 have hw := hM.words i hi hi2
 obtain ⟨gx, cx, e1, k1, k2⟩ := row_shape hw h0
 obtain ⟨gh, ch, e2, k3, k4⟩ := row_shape hS.held (by omega)
 have hr : rowB p.xs[i] = gx := by rw [e1]; rfl
 rw [hr]
 unfold elOut
 generalize m.held[i].length = lw at e1 k1 h0 hl ⊢
 have hh := hS.held
 rw [e2] at hh
 have b0 : w.drew.cell? ⟨p.M, 0, none⟩ = some (.pointer (some ⟨p.X, 0, none⟩)) := by simpa using hb.cell 0
 have x5 : w.drew.cell? ⟨p.X, 5, none⟩ = some (.slice (some ⟨gh, 0, none⟩) p.xs.length ch) := by simpa [e2] using hS.X.cell 5
 have x6 : w.drew.cell? ⟨p.X, 6, none⟩ = some (.map (some p.pb)) := by simpa using hS.X.cell 6
 have r1 : w.drew.cell? ⟨gh, i * 2 + 1, none⟩ = some (.slice (some ⟨gx, 0, none⟩) lw cx) := by
  have := hh.cellAt (i * 2 + 1) (by omega)
  rw [hc2_at _ _ i hi hS.hlen, e1] at this
  exact this
 have l1 := (hS.place.mono (Below.refl _ _).drew).lookup under92 under9 s _ (zero3 w.drew) false
 rw [getM_map (Value.int .i64), hp] at l1
 simp only [Option.map_some, Option.getD_some, Bool.false_eq_true, if_false] at l1
 obtain ⟨q, hq⟩ : ∃ q : Nat, j = q := ⟨j.toNat, by omega⟩
 subst hq
 obtain ⟨hj1, hj2⟩ := hj
 clear hS hM hp hw e1 e2 hb hh hr hi2
 by_cases hc : (lw : Int) ≤ (q : Int)
 ·rw [if_pos hc]
  go_enter Tryz.func78, Tryz.ntmps78
  go_wp2_with fail
  go_region
  go_wp2_with fail
  refine bp_panic ?_
  exact ⟨rfl, (Below.refl _ _).drew⟩
 ·rw [if_neg hc]
  have hc2 : q < lw := by omega
  have hcc : ¬ (lw : Int) ≤ (q : Int) := hc
  have hw1 : IntKind.u64.wrap (q : Int) = (q : Int) := by unfold IntKind.wrap; simp [IntKind.signed, IntKind.bits]; omega
  have hw2 : IntKind.u64.wrap (lw : Int) = (lw : Int) := by unfold IntKind.wrap; simp [IntKind.signed, IntKind.bits]; omega
  have ht : ((q : Int)).toNat = q := by simp
  rw [ht]
  clear ht hc
  go_enter Tryz.func78, Tryz.ntmps78
  go_wp2_with fail
  go_region
  clear k2 k4 k1 k3 hi x5 x6 b0 l1 r1
  clear hl hj1 hj2 h0
  go_wp2_with fail
  go_ret
  exact ⟨rfl, (Below.refl _ _).drew⟩
end
section
open Go.Shelf
abbrev tysF (fb : List BSc) : List Scope := fb.map fun sc => sc.map fun x => (x.1, x.2.1.1)
theorem seesS_tys (s : ByteArray) (fb : List BSc) : seesS s (tysF fb) = (seesB s fb).map (·.1.1) := by
 unfold seesS seesB
 suffices ∀ (fb : List BSc) (a : Option ((Int × Int) × Nat)), (tysF fb).foldl (fun a sc => match getM s sc with | some t => some t | none => a) (a.map (·.1.1)) = (fb.foldl (fun a sc => match getM s sc with | some t => some t | none => a) a).map (·.1.1) from this fb none
 intro fb
 induction fb with
 | nil => intro a; rfl
 | cons c r ih =>
  intro a
  simp only [tysF, List.map_cons, List.foldl_cons] at ih ⊢
  rw [← ih]
  congr 1
  have : getM s (c.map fun x => (x.1, x.2.1.1)) = (getM s c).map (·.1.1) := getM_map (fun x : (Int × Int) × Nat => x.1.1) s c
  rw [this]
  cases getM s c <;> rfl
theorem tyE_get {vs : VS} {cs : CSg} {ss : List Scope} : ∀ {l : Exs} {ks : List Int}, tyE vs cs ss l = .ok ks → ks.length = l.toL.length ∧ ∀ (i : Nat) (a : EH × Exs), l.toL[i]? = some a → ∃ t, tyX vs cs ss a.1 a.2 = .ok t ∧ ks[i]? = some t
 | .nil, ks, h => by
  simp only [tyE] at h
  cases h
  exact ⟨rfl, fun i a ha => by simp [Exs.toL] at ha⟩
 | .cons hd k r, ks, h => by
  simp only [tyE] at h
  cases h1 : tyE vs cs ss k with
  | error e => rw [h1] at h; cases h
  | ok k1 =>
   rw [h1] at h
   simp only [] at h
   cases h2 : tyH vs cs ss hd k1 with
   | error e => rw [h2] at h; cases h
   | ok t =>
    rw [h2] at h
    simp only [] at h
    cases h3 : tyE vs cs ss r with
    | error e => rw [h3] at h; cases h
    | ok ts =>
     rw [h3] at h
     cases h
     obtain ⟨q1, q2⟩ := tyE_get h3
     refine ⟨by simp [Exs.toL, q1], fun i a ha => ?_⟩
     cases i with
     | zero =>
      simp only [Exs.toL, List.getElem?_cons_zero, Option.some.injEq] at ha
      subst ha
      exact ⟨t, by unfold tyX; rw [h1]; exact h2, rfl⟩
     | succ i =>
      simp only [Exs.toL, List.getElem?_cons_succ] at ha ⊢
      exact q2 i a ha
end
section
open Go.Shelf
structure CtR (p : Pt) (cf : Cf) (u : UT) (n d : Nat) (m : MS) (ve : EvS) (F : Nat) (fb : List BSc) (g cap : Nat) (ms : List Nat) (w : World) : Prop where
 st : MSt p cf u n w
 me : MeR p cf.allowed n d m ve w
 fr : FrR w n F fb g cap ms
 pos : ∀ q ∈ m.held, 0 < q.length ∧ q.length ≤ 4096
theorem CtR.below {p : Pt} {cf : Cf} {u : UT} {n d : Nat} {m : MS} {ve : EvS} {F : Nat} {fb : List BSc} {g cap : Nat} {ms : List Nat} {w w' : World} (h : CtR p cf u n d m ve F fb g cap ms w) (hb : Below w.heap.size w w') : CtR p cf u n d m ve F fb g cap ms w' :=
 ⟨h.st.move h.me (Kpt.of hb) h.me.size, h.me.below hb, h.fr.below hb, h.pos⟩
theorem CtR.spot {p : Pt} {cf : Cf} {u : UT} {n d : Nat} {m : MS} {ve : EvS} {F : Nat} {fb : List BSc} {g cap : Nat} {ms : List Nat} {w : World} (h : CtR p cf u n d m ve F fb g cap ms w) {s : ByteArray} {ty : Int} (ht : varT cf.vs (tysF fb) s = .ok ty) :
  ∃ b, (((∃ x, seesB s fb = some x ∧ b = x.2 ∧ ty = x.1.1)) ∨ (seesB s fb = none ∧ ∃ (i : Nat) (hi : i < p.xs.length), getM s cf.pl = some (i : Int) ∧ b = rowB p.xs[i] ∧ typeV cf s = ty)) ∧
   Calls Tryz.prog 76 #[.pointer (some ⟨p.M, 0, none⟩), .pointer (some ⟨F, 0, none⟩), .string s] w fun e w' => e = .returned (.tuple #[.pointer (some ⟨b, 0, none⟩), .int .u8 ty]) ∧ Below w.heap.size w w' := by
 unfold varT at ht
 rw [seesS_tys] at ht
 cases hs : seesB s fb with
 | some x =>
  rw [hs] at ht
  simp only [Option.map_some] at ht
  cases ht
  exact ⟨x.2, .inl ⟨x, rfl, rfl, rfl⟩, spot76_l p n F fb g cap ms s x w h.fr hs⟩
 | none =>
  rw [hs] at ht
  simp only [Option.map_none] at ht
  cases hv : getM s cf.vs with
  | none => rw [hv] at ht; cases ht
  | some y =>
   obtain ⟨t, ln⟩ := y
   rw [hv] at ht
   simp only [] at ht
   split at ht
   ·cases ht
    obtain ⟨i, h1, h2⟩ := h.st.pl s _ hv
    exact ⟨_, .inr ⟨rfl, i, h2, h1, rfl, by unfold typeV; rw [hv]; rfl⟩, spot76_g p cf u cf.allowed n d m ve F fb g cap ms s _ ln i w h.st h.me h.fr hs hv h1 h2 fun q hq => (h.pos q hq).1⟩
   ·cases ht
end
section
abbrev tySc (sc : LSc) : Scope := sc.map fun x => (x.1, x.2.1)
abbrev tyFr (fr : Fr) : List Scope := fr.map tySc
def Out.Ty {α : Type} (P : α → Prop) : Out α → Prop
 | .ok a _ => P a
 | .stop _ _ _ => True
 | .lost => True
theorem Out.ty_bind {α β : Type} {P : α → Prop} {Q : β → Prop} {o : Out α} {f : α → MS → Out β} (h : o.Ty P) (hf : ∀ a m, P a → (f a m).Ty Q) : (o.bind f).Ty Q := by
 cases o with
 | ok a m => exact hf a m h
 | stop k x m => trivial
 | lost => trivial
theorem Out.ty_any {α β : Type} {Q : β → Prop} {o : Out α} {f : α → MS → Out β} (hf : ∀ a m, (f a m).Ty Q) : (o.bind f).Ty Q :=
 Out.ty_bind (P := fun _ => True) (by cases o <;> trivial) fun a m _ => hf a m
theorem putM_ty {s : ByteArray} {t v v0 : Int} : ∀ {c : LSc}, getM s c = some (t, v0) → tySc (putM s (t, v) c) = tySc c
 | [], h => by cases h
 | x :: r, h => by
  rw [getM_cons] at h
  simp only [putM]
  by_cases hq : (s == x.1) = true
  ·rw [if_pos hq] at h ⊢
   have e : s = x.1 := (MapKept.bytes_beq s x.1).1 hq
   have e2 : x.2 = (t, v0) := by simpa using h
   simp only [tySc, List.map_cons, e, e2]
  ·rw [if_neg hq] at h ⊢
   have := putM_ty (t := t) (v := v) h
   simp only [tySc, List.map_cons] at this ⊢
   rw [this]
theorem setF_ty (s : ByteArray) (v : Int) : ∀ fr : Fr, tyFr (setF s v fr) = tyFr fr
 | [] => rfl
 | c :: r => by
  unfold setF
  split
  ·simp only [tyFr, List.map_cons]
   have := setF_ty s v r
   unfold tyFr at this
   rw [this]
  ·split
   ·rename_i t x hq
    simp only [tyFr, List.map_cons]
    rw [putM_ty hq]
   ·rfl
def giveT (s : ByteArray) (t : Int) (ss : List Scope) : List Scope := ss.dropLast ++ [putM s t (ss.getLastD [])]
theorem giveF_ty (s : ByteArray) (x : Int × Int) (fr : Fr) : tyFr (giveF s x fr) = giveT s x.1 (tyFr fr) := by
 unfold giveF giveT
 simp only [tyFr, List.map_append, List.map_dropLast, List.map_cons, List.map_nil]
 congr 2
 have : (List.map tySc fr).getLastD [] = tySc (fr.getLastD []) := by
  simp only [List.getLastD_eq_getLast?, List.getLast?_map]
  cases fr.getLast? <;> rfl
 rw [this]
 exact (putM_map (fun y : Int × Int => y.1) s x _).symm
theorem giveT_last (s : ByteArray) (t : Int) (ss : List Scope) (c : Scope) : giveT s t (ss ++ [c]) = ss ++ [putM s t c] := by
 unfold giveT
 simp
structure Evl.Ty (ev : Evl) : Prop where
 L : ∀ d fr l m, (ev.L d fr l m).Ty fun q => tyFr q.2.2 = tyFr fr
 W : ∀ d fr h k b m, (ev.W d fr h k b m).Ty fun q => tyFr q.2.2 = tyFr fr
def stT (h : SH) (ss : List Scope) : List Scope := if h.kind = 1 then giveT h.name h.type ss else ss
theorem stT_1 {h : SH} {ss : List Scope} (hk : h.kind = 1) : stT h ss = giveT h.name h.type ss := by unfold stT; rw [if_pos hk]
theorem stT_n {h : SH} {ss : List Scope} (hk : h.kind ≠ 1) : stT h ss = ss := by unfold stT; rw [if_neg hk]
theorem stT_drop (h : SH) (ss : List Scope) : (stT h ss).dropLast = ss.dropLast := by
 unfold stT
 split
 ·unfold giveT; simp
 ·rfl
section
variable {cf : Cf} {ev : Evl} (hg : ev.Ty)
theorem setV_ty (d : Nat) (fr : Fr) (h : SH) (x : Exs) (m : MS) : (setV cf ev d fr h x m).Ty fun fr' => tyFr fr' = tyFr fr := by
 have hw : ∀ m v, tyFr (writeV cf fr m h.name v).1 = tyFr fr := fun m v => by
  unfold writeV
  split
  ·exact setF_ty _ _ _
  ·rfl
 unfold setV
 refine Out.ty_any fun v m2 => ?_
 split
 ·exact hw _ _
 ·split
  ·exact hw _ _
  ·trivial
include hg
theorem stmtV_ty (d : Nat) (fr : Fr) (h : SH) (x : Exs) (b e : Sts) (m : MS) : (stmtV cf ev d fr h x b e m).Ty fun q => tyFr q.2.2 = stT h (tyFr fr) := by
 unfold stmtV
 refine Out.ty_any fun _ m1 => ?_
 split
 ·rename_i hk
  refine Out.ty_any fun v m2 => ?_
  show tyFr (giveF _ _ _) = _
  rw [giveF_ty, stT_1 hk]
 rename_i h1
 have HN := hid (show stT h (tyFr fr) = tyFr fr from stT_n h1)
 clear h1
 rw [HN.out]
 split
 ·exact Out.ty_bind (setV_ty d fr h x _) fun fr' m2 h => h
 split
 ·exact Out.ty_any fun _ m2 => rfl
 split
 ·refine Out.ty_any fun v m2 => ?_
  split
  ·exact hg.L _ _ _ _
  ·exact hg.L _ _ _ _
 split
 ·split
  ·exact hg.W _ _ _ _ _ _
  ·trivial
 split
 ·rfl
 split
 ·rfl
 split
 ·exact Out.ty_any fun v m2 => rfl
 split
 ·exact Out.ty_any fun v m2 => rfl
 ·rfl
theorem stmtsV_ty (d : Nat) : ∀ (l : Sts) (fr : Fr) (m : MS), (stmtsV cf ev d l fr m).Ty fun q => (tyFr q.2.2).dropLast = (tyFr fr).dropLast
 | .nil, fr, m => rfl
 | .cons h x b e r, fr, m => by
  unfold stmtsV
  refine Out.ty_bind (stmtV_ty hg d fr h x b e m) fun q m1 hq => ?_
  split
  ·have := stmtsV_ty d r q.2.2 m1
   rw [hq, stT_drop] at this
   exact this
  ·show (tyFr q.2.2).dropLast = _
   rw [hq, stT_drop]
theorem listV_ty (d : Nat) (fr : Fr) (l : Sts) (m : MS) : (listV cf ev d fr l m).Ty fun q => tyFr q.2.2 = tyFr fr := by
 unfold listV
 refine Out.ty_bind (stmtsV_ty hg d l _ m) fun q m1 hq => ?_
 show tyFr q.2.2.dropLast = tyFr fr
 simp only [tyFr, List.map_dropLast, List.map_append, List.map_cons, List.map_nil] at hq ⊢
 rw [hq]
 simp
theorem whileV_ty (d : Nat) (fr : Fr) (h : EH) (k : Exs) (b : Sts) (m : MS) : (whileV cf ev d fr h k b m).Ty fun q => tyFr q.2.2 = tyFr fr := by
 unfold whileV
 refine Out.ty_any fun c m1 => ?_
 split
 ·rfl
 ·refine Out.ty_bind (hg.L _ _ _ _) fun q m2 hq => ?_
  split
  ·exact hq
  split
  ·exact hq
  ·refine Out.ty_any fun _ m3 => ?_
   have := hg.W d q.2.2 h k b m3
   rw [hq] at this
   exact this
end
theorem evl_ty (cf : Cf) : ∀ n, (evl cf n).Ty
 | 0 => ⟨fun _ _ _ _ => trivial, fun _ _ _ _ _ _ => trivial⟩
 | n + 1 => ⟨fun d fr l m => listV_ty (evl_ty cf n) d fr l m, fun d fr h k b m => whileV_ty (evl_ty cf n) d fr h k b m⟩
theorem evArgs_len (ev : Evl) (d : Nat) (fr : Fr) : ∀ (l : Exs) (m : MS), (evArgs ev d fr l m).Ty fun a => a.length = l.len
 | .nil, m => rfl
 | .cons h k r, m => Out.ty_any fun v m1 => Out.ty_bind (evArgs_len ev d fr r m1) fun a m2 ha => by
   show (v :: a).length = _
   simp [Exs.len, ha]
theorem typF_ty (cf : Cf) (fr : Fr) (h : EH) (k : Exs) {t : Int} (ht : tyX cf.vs cf.cs (tyFr fr) h k = .ok t) : typF cf fr h k = t := by
 unfold typF
 rw [show (fr.map fun sc => sc.map fun x => (x.1, x.2.1)) = tyFr fr from rfl, ht]
end
section
/-! ### what makes sense -/
structure Cf.Ok (cf : Cf) : Prop where
 call : ∀ s g, getM s cf.cs = some g → (g.host < 0 → ∃ f, cf.fs[g.fn.toNat]? = some f ∧ f.params = g.params) ∧ (¬ g.host < 0 → ∃ h, cf.hs[g.host.toNat]? = some h)
 fn : ∀ f ∈ cf.fs, okS f.body = true ∧ ∃ sc c, addPars cf.vs cf.cs f.params [] = .ok sc ∧ chS cf.vs cf.cs f.type f.body [sc] [] 0 = .ok c
structure XT (cf : Cf) (ss : List Scope) (h : EH) (k : Exs) (t : Int) : Prop where
 ok : okH h k.len = true
 kids : okE k = true
 ty : tyX cf.vs cf.cs ss h k = .ok t
theorem okE_at : ∀ {l : Exs}, okE l = true → ∀ (i : Nat) (a : EH × Exs), l.toL[i]? = some a → okH a.1 a.2.len = true ∧ okE a.2 = true
 | .nil, _, i, a, h => by simp [Exs.toL] at h
 | .cons h k r, hk, i, a, ha => by
  simp only [okE, Bool.and_eq_true] at hk
  cases i with
  | zero =>
   simp only [Exs.toL, List.getElem?_cons_zero, Option.some.injEq] at ha
   subst ha
   exact ⟨hk.1.2, hk.1.1⟩
  | succ i =>
   simp only [Exs.toL, List.getElem?_cons_succ] at ha
   exact okE_at hk.2 i a ha
theorem Exs.sz_at : ∀ {l : Exs} (i : Nat) (a : EH × Exs), l.toL[i]? = some a → a.2.sz + 1 ≤ l.sz
 | .nil, i, a, h => by simp [Exs.toL] at h
 | .cons h k r, i, a, ha => by
  simp only [Exs.sz]
  cases i with
  | zero =>
   simp only [Exs.toL, List.getElem?_cons_zero, Option.some.injEq] at ha
   subst ha
   show k.sz + 1 ≤ _
   omega
  | succ i =>
   simp only [Exs.toL, List.getElem?_cons_succ] at ha
   have := Exs.sz_at i a ha
   omega
theorem tyE_xt {cf : Cf} {ss : List Scope} {l : Exs} {ks : List Int} (ho : okE l = true) (h : tyE cf.vs cf.cs ss l = .ok ks) (i : Nat) (a : EH × Exs) (ha : l.toL[i]? = some a) : ∃ t, XT cf ss a.1 a.2 t ∧ ks[i]? = some t := by
 obtain ⟨t, h1, h2⟩ := (tyE_get h).2 i a ha
 exact ⟨t, ⟨(okE_at ho i a ha).1, (okE_at ho i a ha).2, h1⟩, h2⟩
theorem XT.kinds {cf : Cf} {ss : List Scope} {h : EH} {k : Exs} {t : Int} (hx : XT cf ss h k t) : ∃ ks, tyE cf.vs cf.cs ss k = .ok ks ∧ tyH cf.vs cf.cs ss h ks = .ok t := by
 have := hx.ty
 unfold tyX at this
 cases hk : tyE cf.vs cf.cs ss k with
 | error e => rw [hk] at this; cases this
 | ok ks => rw [hk] at this; exact ⟨ks, rfl, this⟩
theorem XT.kid {cf : Cf} {ss : List Scope} {h : EH} {k : Exs} {t : Int} (hx : XT cf ss h k t) (i : Nat) (a : EH × Exs) (ha : k.toL[i]? = some a) : ∃ t', XT cf ss a.1 a.2 t' := by
 obtain ⟨ks, h1, -⟩ := hx.kinds
 obtain ⟨t', h2, -⟩ := tyE_xt hx.kids h1 i a ha
 exact ⟨t', h2⟩
theorem okH_n {h : EH} {n : Nat} (hk : okH h n = true) : (h.kind = 1 ∨ h.kind = 2 ∨ h.kind = 3 ∨ h.kind = 4 ∨ h.kind = 5 ∨ h.kind = 6 ∨ h.kind = 7 ∨ h.kind = 8) ∧ (h.kind = 4 → n = 1) ∧ (h.kind = 6 → n = 1) ∧ (h.kind = 7 → n = 2) ∧ (h.kind = 8 → n = 1) ∧ (h.kind = 5 → n ≤ 15) := by
 obtain ⟨a0, a1, a2, a3, a4, a5⟩ := h
 simp only []
 by_cases h1 : a1 = 1
 ·subst h1; simp
 by_cases h2 : a1 = 2
 ·subst h2; simp
 by_cases h3 : a1 = 3
 ·subst h3; simp
 by_cases h4 : a1 = 4
 ·subst h4
  rw [okH_4] at hk
  simp only [Bool.and_eq_true, beq_iff_eq] at hk
  have : n = 1 := by omega
  simp [this]
 by_cases h5 : a1 = 5
 ·subst h5
  rw [okH_5] at hk
  simp only [Bool.and_eq_true, decide_eq_true_eq] at hk
  have : n ≤ 15 := by omega
  simp [this]
 by_cases h6 : a1 = 6
 ·subst h6
  rw [okH_6] at hk
  simp only [Bool.and_eq_true] at hk
  have := bareB_n hk.1
  simp [this]
 by_cases h7 : a1 = 7
 ·subst h7
  rw [okH_7] at hk
  simp only [Bool.and_eq_true] at hk
  have := bareB_n hk.1
  simp [this]
 by_cases h8 : a1 = 8
 ·subst h8
  rw [okH_8] at hk
  simp only [Bool.and_eq_true] at hk
  have := bareB_n hk.1
  simp [this]
 ·rw [okH_0 a0 a1 a2 a3 a4 a5 n ⟨h1, h2, h3, h4, h5, h6, h7, h8⟩] at hk
  cases hk
theorem Exs.toL_get {l : Exs} {i : Nat} (h : i < l.len) : ∃ a, l.toL[i]? = some a := ⟨l.toL[i]'(by rw [Exs.toL_len]; exact h), List.getElem?_eq_getElem _⟩
theorem callT_ok {cs : CSg} {s : ByteArray} {ks : List Int} {t : Int} (h : callT cs s ks = .ok t) : ∃ g, getM s cs = some g ∧ g.params.length = ks.length ∧ g.type = t := by
 unfold callT at h
 split at h
 ·cases h
 ·rename_i g hg
  refine ⟨g, hg, ?_⟩
  repeat' split at h
  all_goals (first | (cases h; done) | skip)
  all_goals (cases h)
  all_goals (simp_all)
theorem XT.call {cf : Cf} {ss : List Scope} {h : EH} {k : Exs} {t : Int} (hx : XT cf ss h k t) (h5 : h.kind = 5) : ∃ g, getM h.name cf.cs = some g ∧ g.params.length = k.len ∧ g.type = t := by
 obtain ⟨ks, h1, h2⟩ := hx.kinds
 have h3 : tyH cf.vs cf.cs ss h ks = callT cf.cs h.name ks := by
  unfold tyH
  rw [h5]
  rfl
 rw [h3] at h2
 obtain ⟨g, q1, q2, q3⟩ := callT_ok h2
 refine ⟨g, q1, ?_, q3⟩
 rw [q2, (tyE_get h1).1, Exs.toL_len]
theorem stF_ok {vs : VS} {cs : CSg} {ret : Int} {h : SH} {x : Exs} {rb re rw : Except Int Unit} {ss : List Scope} {c c' : Scope} {lp : Nat} (hs : stF vs cs ret h x rb re rw ss c lp = .ok c') :
  ∃ ts, tyE vs cs (ss ++ [c]) x = .ok ts ∧ (h.kind = 1 → c' = putM h.name h.type c) ∧ (h.kind ≠ 1 → c' = c) ∧ (h.kind = 2 → ∃ t, varT vs (ss ++ [c]) h.name = .ok t) ∧ (h.kind = 3 → ∃ t, arrT vs (ss ++ [c]) h.name = .ok t) ∧
   (h.kind = 4 → rb = .ok () ∧ re = .ok ()) ∧ (h.kind = 5 → rw = .ok ()) := by
 unfold stF at hs
 cases hx : tyE vs cs (ss ++ [c]) x with
 | error e => rw [hx] at hs; cases hs
 | ok ts =>
  rw [hx] at hs
  simp only [] at hs
  refine ⟨ts, rfl, ?_⟩
  obtain ⟨a0, a1, a2, a3, a4⟩ := h
  simp only [] at hs ⊢
  by_cases h1 : a1 = 1
  ·subst h1
   simp only [if_true] at hs
   repeat' split at hs
   all_goals (cases hs)
   simp
  rw [if_neg h1] at hs
  by_cases h2 : a1 = 2
  ·subst h2
   simp only [if_true] at hs
   cases hv : varT vs (ss ++ [c]) a2 with
   | error e => rw [hv] at hs; cases hs
   | ok t =>
    rw [hv] at hs
    simp only [] at hs
    repeat' split at hs
    all_goals (cases hs)
    simp
  rw [if_neg h2] at hs
  by_cases h3 : a1 = 3
  ·subst h3
   simp only [if_true] at hs
   cases hv : arrT vs (ss ++ [c]) a2 with
   | error e => rw [hv] at hs; cases hs
   | ok t =>
    rw [hv] at hs
    simp only [] at hs
    repeat' split at hs
    all_goals (cases hs)
    simp
  rw [if_neg h3] at hs
  by_cases h4 : a1 = 4
  ·subst h4
   simp only [if_true] at hs
   cases rb with
   | error e => simp only [] at hs; split at hs <;> cases hs
   | ok u =>
    cases re with
    | error e => simp only [] at hs; split at hs <;> cases hs
    | ok u2 =>
     simp only [] at hs
     split at hs
     ·cases hs; simp
     ·cases hs
  rw [if_neg h4] at hs
  by_cases h5 : a1 = 5
  ·subst h5
   simp only [if_true] at hs
   cases rw with
   | error e => simp only [] at hs; split at hs <;> cases hs
   | ok u =>
    simp only [] at hs
    split at hs
    ·cases hs; simp
    ·cases hs
  rw [if_neg h5] at hs
  have hc : c' = c := by
   repeat' split at hs
   all_goals (cases hs)
   all_goals rfl
  simp [h1, h2, h3, h4, h5, hc]
theorem unitE_ok {α : Type} {x : Except Int α} (h : unitE x = .ok ()) : ∃ a, x = .ok a := by
 cases x with
 | ok a => exact ⟨a, rfl⟩
 | error e => cases h
theorem chS_cons {vs : VS} {cs : CSg} {ret : Int} {h : SH} {x : Exs} {b e r : Sts} {ss : List Scope} {c c' : Scope} {lp : Nat} (hs : chS vs cs ret (.cons h x b e r) ss c lp = .ok c') :
  ∃ c1, stF vs cs ret h x (unitE (chS vs cs ret b (ss ++ [c]) [] lp)) (unitE (chS vs cs ret e (ss ++ [c]) [] lp)) (unitE (chS vs cs ret b (ss ++ [c]) [] (lp + 1))) ss c lp = .ok c1 ∧ chS vs cs ret r ss c1 lp = .ok c' := by
 simp only [chS] at hs
 split at hs
 ·cases hs
 ·rename_i c1 h1
  exact ⟨c1, h1, hs⟩
theorem stT_ok {vs : VS} {cs : CSg} {ret : Int} {h : SH} {x : Exs} {rb re rw : Except Int Unit} {ss : List Scope} {c c' : Scope} {lp : Nat} (hs : stF vs cs ret h x rb re rw ss c lp = .ok c') : stT h (ss ++ [c]) = ss ++ [c'] := by
 obtain ⟨ts, -, h1, h2, -⟩ := stF_ok hs
 by_cases hk : h.kind = 1
 ·rw [stT_1 hk, giveT_last, h1 hk]
 ·rw [stT_n hk, h2 hk]
theorem addPars_ty (vs : VS) (cs : CSg) : ∀ (ps : List PW) (args : List Int) (lsc : LSc) (sc sc' : Scope), addPars vs cs ps sc = .ok sc' → tySc lsc = sc → args.length = ps.length → tySc (parSc ps args lsc) = sc'
 | [], [], lsc, sc, sc', h, ht, _ => by
  simp only [addPars] at h
  cases h
  exact ht
 | [], a :: l, _, _, _, _, _, hl => by simp at hl
 | p :: r, [], _, _, _, _, _, hl => by simp at hl
 | p :: r, a :: l, lsc, sc, sc', h, ht, hl => by
  simp only [addPars] at h
  split at h
  ·cases h
  ·refine addPars_ty vs cs r l _ _ _ h ?_ (by simpa using hl)
   rw [← ht]
   exact (putM_map (fun y : Int × Int => y.1) p.1 (p.2, a) lsc).symm
/-! ### fuel enough -/
def nd (A Z d s z : Nat) : Nat := (17 - d) * ((A + 1) * (Z + 4)) + (A - s) * (Z + 4) + z
theorem nd_mono {A Z d s s' z z' : Nat} (hs : s ≤ s') (hz : z + 1 ≤ z') : nd A Z d s' z + 1 ≤ nd A Z d s z' := by
 unfold nd
 have : (A - s') * (Z + 4) ≤ (A - s) * (Z + 4) := Nat.mul_le_mul_right _ (by omega)
 omega
theorem nd_tick {A Z d s s' z : Nat} (hs : s + 1 ≤ s') (ha : s < A) : nd A Z d s' z + 1 ≤ nd A Z d s z := by
 unfold nd
 have h1 : (A - s') * (Z + 4) ≤ (A - (s + 1)) * (Z + 4) := Nat.mul_le_mul_right _ (by omega)
 have h2 : (A - s) * (Z + 4) = (A - (s + 1)) * (Z + 4) + (Z + 4) := by
  rw [show A - s = (A - (s + 1)) + 1 by omega, Nat.succ_mul]
 omega
theorem nd_call {A Z d s s' z : Nat} (hd : d < 16) (hs : s ≤ s') (hz : z ≤ Z + 2) : nd A Z (d + 1) s' z + 1 ≤ nd A Z d s 0 := by
 unfold nd
 have h1 : (A - s') * (Z + 4) ≤ (A - s) * (Z + 4) := Nat.mul_le_mul_right _ (by omega)
 have h2 : (17 - d) * ((A + 1) * (Z + 4)) = (17 - (d + 1)) * ((A + 1) * (Z + 4)) + (A + 1) * (Z + 4) := by
  rw [show 17 - d = (17 - (d + 1)) + 1 by omega, Nat.succ_mul]
 have h3 : (A + 1) * (Z + 4) = A * (Z + 4) + (Z + 4) := Nat.succ_mul _ _
 omega
theorem nd_pos {A Z d s z : Nat} (hd : d ≤ 16) : 0 < nd A Z d s z := by
 unfold nd
 have h1 : 1 ≤ 17 - d := by omega
 have h3 : (A + 1) * (Z + 4) = A * (Z + 4) + (Z + 4) := Nat.succ_mul _ _
 have h2 : 1 * ((A + 1) * (Z + 4)) ≤ (17 - d) * ((A + 1) * (Z + 4)) := Nat.mul_le_mul_right _ h1
 omega
theorem Out.nl_bind {α β : Type} {o : Out α} {f : α → MS → Out β} (h : o ≠ .lost) (hf : ∀ a m, o = .ok a m → f a m ≠ .lost) : o.bind f ≠ .lost := by
 cases o with
 | ok a m => exact hf a m rfl
 | stop k x m => intro q; cases q
 | lost => exact absurd rfl h
theorem Out.of_bind {α β : Type} {o : Out α} {f : α → MS → Out β} (h : o.bind f ≠ .lost) : o ≠ .lost := fun q => by subst q; exact h rfl
theorem Out.from_ok {α : Type} {m m' : MS} {o : Out α} {a : α} (h : o.from m) (e : o = .ok a m') : MS.le m m' := by subst e; exact h
theorem Out.ty_ok {α : Type} {P : α → Prop} {m : MS} {o : Out α} {a : α} (h : o.Ty P) (e : o = .ok a m) : P a := by subst e; exact h
theorem tick_nl (cf : Cf) (m : MS) : tick cf m ≠ .lost := by
 unfold tick
 split <;> intro q <;> cases q
theorem tick_ok' {cf : Cf} {m m' : MS} {a : Unit} (h : tick cf m = .ok a m') : m.steps < cf.allowed ∧ m'.steps = m.steps + 1 := by
 unfold tick at h
 split at h
 ·cases h
 ·cases h
  exact ⟨by omega, rfl⟩
structure Evl.NL (cf : Cf) (Z n : Nat) (ev : Evl) : Prop where
 E : ∀ d fr h k m t, d ≤ 16 → XT cf (tyFr fr) h k t → nd cf.allowed Z d m.steps (k.sz + 1) ≤ n → ev.E d fr h k m ≠ .lost
 L : ∀ d fr l m ret lp c', d ≤ 16 → okS l = true → chS cf.vs cf.cs ret l (tyFr fr) [] lp = .ok c' → nd cf.allowed Z d m.steps (l.sz + 1) ≤ n → ev.L d fr l m ≠ .lost
 W : ∀ d fr h k b m t ret lp c', d ≤ 16 → XT cf (tyFr fr) h k t → okS b = true → chS cf.vs cf.cs ret b (tyFr fr) [] lp = .ok c' → nd cf.allowed Z d m.steps (k.sz + b.sz + 2) ≤ n → ev.W d fr h k b m ≠ .lost
 F : ∀ d s g l m, d ≤ 16 → getM s cf.cs = some g → g.host < 0 → l.length = g.params.length → nd cf.allowed Z d m.steps 0 ≤ n → ev.F d g l m ≠ .lost
section
variable {cf : Cf} {Z n : Nat} {ev : Evl} (hc : cf.Ok) (hz : ∀ f ∈ cf.fs, f.body.sz ≤ Z) (hg : ev.NL cf Z n) (hq : ev.Good) (ht : ev.Ty)
include hg
theorem evK_nl {d : Nat} {fr : Fr} {l : Exs} {i : Nat} {m : MS} {ts : List Int} (hd : d ≤ 16) (hi : i < l.len) (ho : okE l = true) (hx : tyE cf.vs cf.cs (tyFr fr) l = .ok ts) (hn : nd cf.allowed Z d m.steps l.sz ≤ n) : evK ev d fr l i m ≠ .lost := by
 obtain ⟨a, ha⟩ := Exs.toL_get hi
 obtain ⟨t, h1, -⟩ := tyE_xt ho hx i a ha
 have h2 := Exs.sz_at i a ha
 unfold evK
 rw [ha]
 refine hg.E _ _ _ _ _ t hd h1 (Nat.le_trans ?_ hn)
 unfold nd
 omega
include hq
theorem evArgs_nl {d : Nat} {fr : Fr} (hd : d ≤ 16) : ∀ {l : Exs} {m : MS} {ts : List Int}, okE l = true → tyE cf.vs cf.cs (tyFr fr) l = .ok ts → nd cf.allowed Z d m.steps l.sz ≤ n → evArgs ev d fr l m ≠ .lost
 | .nil, m, ts, _, _, _ => by intro q; cases q
 | .cons h k r, m, ts, ho, hx, hn => by
  obtain ⟨t, h1, -⟩ := tyE_xt ho hx 0 (h, k) rfl
  have h2 : ∃ ts, tyE cf.vs cf.cs (tyFr fr) r = .ok ts := by
   simp only [tyE] at hx
   repeat' split at hx
   all_goals (first | (cases hx; done) | skip)
   rename_i ts2 h3
   exact ⟨ts2, h3⟩
  obtain ⟨ts2, h2⟩ := h2
  simp only [okE, Bool.and_eq_true] at ho
  simp only [Exs.sz] at hn
  unfold evArgs
  refine Out.nl_bind (hg.E _ _ _ _ _ t hd h1 (Nat.le_trans ?_ hn)) fun v m1 e1 => Out.nl_bind (evArgs_nl hd ho.2 h2 (Nat.le_trans ?_ hn)) fun l m2 _ q => by cases q
  ·unfold nd; omega
  ·have hs := (Out.from_ok (hq.E _ _ _ _ _) e1).1
   have : nd cf.allowed Z d m1.steps r.sz + 1 ≤ nd cf.allowed Z d m.steps (k.sz + r.sz + 1) := nd_mono hs (by omega)
   unfold nd at this ⊢
   omega
include hc
theorem exprV_nl {d : Nat} {fr : Fr} {h : EH} {k : Exs} {m : MS} {t : Int} (hd : d ≤ 16) (hx : XT cf (tyFr fr) h k t) (hn : nd cf.allowed Z d m.steps (k.sz + 1) ≤ n + 1) : exprV cf ev d fr h k m ≠ .lost := by
 unfold exprV
 refine Out.nl_bind (tick_nl _ _) fun _ m1 e1 => ?_
 have hs := (tick_ok' e1).2
 have hn1 : nd cf.allowed Z d m1.steps k.sz ≤ n := by
  have := nd_mono (A := cf.allowed) (Z := Z) (d := d) (show m.steps ≤ m1.steps by omega) (Nat.le_refl (k.sz + 1))
  omega
 clear e1 hs hn
 obtain ⟨ks, hks, -⟩ := hx.kinds
 obtain ⟨hk, h4, h6, h7, h8, -⟩ := okH_n hx.ok
 have K0 : (h.kind = 4 ∨ h.kind = 6 ∨ h.kind = 7 ∨ h.kind = 8) → ∀ m', m1.steps ≤ m'.steps → evK ev d fr k 0 m' ≠ .lost := fun q m' hs => evK_nl hg hd (by rcases q with q | q | q | q <;> simp_all) hx.kids hks (by unfold nd at hn1 ⊢; have : (cf.allowed - m'.steps) * (Z + 4) ≤ (cf.allowed - m1.steps) * (Z + 4) := Nat.mul_le_mul_right _ (by omega); omega)
 have K1 : h.kind = 7 → ∀ m', m1.steps ≤ m'.steps → evK ev d fr k 1 m' ≠ .lost := fun q m' hs => evK_nl hg hd (by simp_all) hx.kids hks (by unfold nd at hn1 ⊢; have : (cf.allowed - m'.steps) * (Z + 4) ≤ (cf.allowed - m1.steps) * (Z + 4) := Nat.mul_le_mul_right _ (by omega); omega)
 have KC : h.kind = 5 → ∃ g, getM h.name cf.cs = some g ∧ g.params.length = k.len := fun q => by obtain ⟨g, q1, q2, -⟩ := hx.call q; exact ⟨g, q1, q2⟩
 have HO := hid hx.kids
 have HK := hid hk
 clear hk h4 h6 h7 h8 hx
 unfold exprB
 split
 ·intro q; cases q
 split
 ·intro q; cases q
 split
 ·rename_i hk
  refine Out.nl_bind (K0 (.inl hk) _ (Nat.le_refl _)) fun i m2 _ => ?_
  split <;> intro q <;> cases q
 split
 ·rename_i hk
  refine Out.nl_bind (evArgs_nl hg hq hd HO.out hks hn1) fun args m2 e2 => ?_
  obtain ⟨g, hg1, hg2⟩ := KC hk
  rw [hg1]
  simp only []
  have hl := Out.ty_ok (evArgs_len ev d fr k m1) e2
  have hs := (Out.from_ok (evArgs_from hq d fr k m1) e2).1
  split
  ·rename_i hh
   refine hg.F d _ g args m2 hd hg1 hh (by rw [hl, hg2]) ?_
   unfold nd at hn1 ⊢
   have : (cf.allowed - m2.steps) * (Z + 4) ≤ (cf.allowed - m1.steps) * (Z + 4) := Nat.mul_le_mul_right _ (by omega)
   omega
  ·rename_i hh
   obtain ⟨x, hx⟩ := (hc.call _ g hg1).2 hh
   unfold hostV
   rw [hx]
   split <;> intro q <;> cases q
 split
 ·rename_i hk
  refine Out.nl_bind (K0 (.inr (.inl hk)) _ (Nat.le_refl _)) fun v m2 _ => ?_
  repeat' split
  all_goals (intro q; cases q)
 split
 ·rename_i hk
  refine Out.nl_bind (K0 (.inr (.inr (.inl hk))) _ (Nat.le_refl _)) fun a m2 e2 => ?_
  split
  ·intro q; cases q
  split
  ·intro q; cases q
  refine Out.nl_bind (K1 hk _ ?_) fun b m3 _ => ?_
  ·refine (Out.from_ok (m := m1) ?_ e2).1
   unfold evK
   split
   ·exact hq.E _ _ _ _ _
   ·trivial
  repeat' split
  all_goals (intro q; cases q)
 split
 ·rename_i hk
  refine Out.nl_bind (K0 (.inr (.inr (.inr hk))) _ (Nat.le_refl _)) fun v m2 _ => ?_
  repeat' split
  all_goals (intro q; cases q)
 ·rename_i q1 q2 q3 q4 q5 q6 q7
  rcases HK.out with q | q | q | q | q | q | q | q
  ·exact absurd (.inl q) q1
  ·exact absurd (.inr q) q1
  ·exact absurd q q2
  ·exact absurd q q3
  ·exact absurd q q4
  ·exact absurd q q5
  ·exact absurd q q6
  ·exact absurd q q7
include ht
omit hc ht in
theorem stmtV_nl {d : Nat} {fr : Fr} {h : SH} {x : Exs} {b e : Sts} {m : MS} {ss : List Scope} {c c1 : Scope} {ret : Int} {lp : Nat} (hd : d ≤ 16) (hty : tyFr fr = ss ++ [c]) (hos : okSH h x.len x.fk b.len e.len = true) (hox : okE x = true) (hob : okS b = true) (hoe : okS e = true)
  (hs : stF cf.vs cf.cs ret h x (unitE (chS cf.vs cf.cs ret b (ss ++ [c]) [] lp)) (unitE (chS cf.vs cf.cs ret e (ss ++ [c]) [] lp)) (unitE (chS cf.vs cf.cs ret b (ss ++ [c]) [] (lp + 1))) ss c lp = .ok c1)
  (hn : nd cf.allowed Z d m.steps (x.sz + b.sz + e.sz + 1) ≤ n) : stmtV cf ev d fr h x b e m ≠ .lost := by
 obtain ⟨ts, hts, -, -, -, -, h4, h5⟩ := stF_ok hs
 have har := okSH_ar hos
 rw [← hty] at hts
 unfold stmtV
 refine Out.nl_bind (tick_nl _ _) fun _ m1 e1 => ?_
 have hs1 := (tick_ok' e1).2
 have le : ∀ (m' : MS) (z : Nat), m1.steps ≤ m'.steps → z ≤ x.sz + b.sz + e.sz + 1 → nd cf.allowed Z d m'.steps z ≤ n := fun m' z hs hz => by
  refine Nat.le_trans ?_ hn
  unfold nd
  have : (cf.allowed - m'.steps) * (Z + 4) ≤ (cf.allowed - m.steps) * (Z + 4) := Nat.mul_le_mul_right _ (by omega)
  omega
 have fromK : ∀ (i : Nat) (m m' : MS) (v : Int), evK ev d fr x i m = .ok v m' → m.steps ≤ m'.steps := fun i m m' v e => (Out.from_ok (m := m) (by
   unfold evK
   split
   ·exact hq.E _ _ _ _ _
   ·trivial) e).1
 have K0 : arSH h.kind x.len = true → (h.kind = 1 ∨ h.kind = 2 ∨ h.kind = 3 ∨ h.kind = 4 ∨ h.kind = 5 ∨ h.kind = 8 ∨ 0 < x.len) → ∀ m', m1.steps ≤ m'.steps → evK ev d fr x 0 m' ≠ .lost := fun har q m' hs => evK_nl hg hd (by
   rcases q with q | q | q | q | q | q | q
   ·rw [q] at har; exact of_decide_eq_true har
   ·rw [q] at har; exact of_decide_eq_true har
   ·rw [q] at har; have : 2 ≤ x.len := of_decide_eq_true har; omega
   ·rw [q] at har; exact of_decide_eq_true har
   ·rw [q] at har; exact of_decide_eq_true har
   ·rw [q] at har; exact of_decide_eq_true har
   ·exact q) hox hts (le _ _ hs (by omega))
 have K1 : h.kind = 3 → ∀ m', m1.steps ≤ m'.steps → evK ev d fr x 1 m' ≠ .lost := fun q m' hs => evK_nl hg hd (by rw [q] at har; have : 2 ≤ x.len := of_decide_eq_true har; omega) hox hts (le _ _ hs (by omega))
 have HAR := hid har
 have HL := hid le
 have HF := hid fromK
 have HOS := hid hos
 have H4 := hid h4
 have H5 := hid h5
 clear har le fromK hos h4 h5 hs
 split
 ·rename_i hk
  exact Out.nl_bind (K0 HAR.out (.inl hk) _ (Nat.le_refl _)) fun v m2 _ q => by cases q
 split
 ·rename_i _ hk
  refine Out.nl_bind ?_ fun v m2 _ q => by cases q
  unfold setV
  refine Out.nl_bind (K0 HAR.out (.inr (.inl hk)) _ (Nat.le_refl _)) fun v m2 _ => ?_
  repeat' split
  all_goals (intro q; cases q)
 split
 ·rename_i _ _ hk
  refine Out.nl_bind ?_ fun v m2 _ q => by cases q
  unfold putV
  refine Out.nl_bind (K0 HAR.out (.inr (.inr (.inl hk))) _ (Nat.le_refl _)) fun v m2 e2 => ?_
  split
  ·intro q; cases q
  refine Out.nl_bind (K1 hk _ (HF.out _ _ _ _ e2)) fun v m3 _ => ?_
  repeat' split
  all_goals (intro q; cases q)
 split
 ·rename_i _ _ _ hk
  obtain ⟨r1, r2⟩ := H4.out hk
  obtain ⟨cb, hcb⟩ := unitE_ok r1
  obtain ⟨ce, hce⟩ := unitE_ok r2
  refine Out.nl_bind (K0 HAR.out (.inr (.inr (.inr (.inl hk)))) _ (Nat.le_refl _)) fun v m2 e2 => ?_
  have hs2 := HF.out _ _ _ _ e2
  split
  ·exact hg.L _ _ _ _ ret lp ce hd hoe (by rw [hty]; exact hce) (HL.out _ _ hs2 (by omega))
  ·exact hg.L _ _ _ _ ret lp cb hd hob (by rw [hty]; exact hcb) (HL.out _ _ hs2 (by omega))
 split
 ·rename_i _ _ _ _ hk
  obtain ⟨cb, hcb⟩ := unitE_ok (H5.out hk)
  have hlen : 0 < x.len := by have := HAR.out; rw [hk] at this; exact of_decide_eq_true this
  obtain ⟨a, ha⟩ := Exs.toL_get hlen
  obtain ⟨t, hx, -⟩ := tyE_xt hox hts 0 a ha
  have hz2 := Exs.sz_at 0 a ha
  rw [ha]
  exact hg.W _ _ _ _ _ _ t ret (lp + 1) cb hd hx hob (by rw [hty]; exact hcb) (HL.out _ _ (Nat.le_refl _) (by omega))
 split
 ·intro q; cases q
 split
 ·intro q; cases q
 split
 ·rename_i _ _ _ _ _ _ _ hk
  exact Out.nl_bind (K0 HAR.out (.inr (.inr (.inr (.inr (.inr (.inl hk)))))) _ (Nat.le_refl _)) fun v m2 _ q => by cases q
 split
 ·rename_i hk
  have hlen : 0 < x.len := by
   have := HOS.out
   obtain ⟨a0, a1, a2, a3, a4⟩ := h
   simp only [] at hk
   subst hk
   rw [okSH_9] at this
   simp only [Bool.and_eq_true] at this
   have := plainS_n this.1
   omega
  exact Out.nl_bind (K0 HAR.out (.inr (.inr (.inr (.inr (.inr (.inr hlen)))))) _ (Nat.le_refl _)) fun v m2 _ q => by cases q
 ·intro q; cases q
omit hc in
theorem stmtsV_nl {d : Nat} (hd : d ≤ 16) : ∀ {l : Sts} {fr : Fr} {m : MS} {ss : List Scope} {c c' : Scope} {ret : Int} {lp : Nat}, tyFr fr = ss ++ [c] → okS l = true → chS cf.vs cf.cs ret l ss c lp = .ok c' → nd cf.allowed Z d m.steps l.sz ≤ n → stmtsV cf ev d l fr m ≠ .lost
 | .nil, fr, m, ss, c, c', ret, lp, _, _, _, _ => by intro q; cases q
 | .cons h x b e r, fr, m, ss, c, c', ret, lp, hty, ho, hs, hn => by
  obtain ⟨c1, h1, h2⟩ := chS_cons hs
  simp only [okS, Bool.and_eq_true] at ho
  simp only [Sts.sz] at hn
  unfold stmtsV
  refine Out.nl_bind (stmtV_nl hg hq hd hty ho.1 ho.2.2.2.1 ho.2.1 ho.2.2.1 h1 (Nat.le_trans ?_ hn)) fun q m1 e1 => ?_
  ·unfold nd; omega
  have hs1 := (Out.from_ok (stmtV_from hq d fr h x b e m) e1).1
  have ht1 := Out.ty_ok (stmtV_ty ht d fr h x b e m) e1
  rw [hty, stT_ok h1] at ht1
  split
  ·refine stmtsV_nl hd ht1 ho.2.2.2.2 h2 (Nat.le_trans ?_ hn)
   unfold nd
   have : (cf.allowed - m1.steps) * (Z + 4) ≤ (cf.allowed - m.steps) * (Z + 4) := Nat.mul_le_mul_right _ (by omega)
   omega
  ·intro q; cases q
omit hc in
theorem listV_nl {d : Nat} {fr : Fr} {l : Sts} {m : MS} {ret : Int} {lp : Nat} {c' : Scope} (hd : d ≤ 16) (ho : okS l = true) (hs : chS cf.vs cf.cs ret l (tyFr fr) [] lp = .ok c') (hn : nd cf.allowed Z d m.steps (l.sz + 1) ≤ n + 1) : listV cf ev d fr l m ≠ .lost := by
 unfold listV
 refine Out.nl_bind (stmtsV_nl hg hq ht hd (by simp [tyFr, tySc]) ho hs ?_) fun q m1 _ q => by cases q
 unfold nd at hn ⊢
 omega
omit hc in
theorem whileV_nl {d : Nat} {fr : Fr} {h : EH} {k : Exs} {b : Sts} {m : MS} {t ret : Int} {lp : Nat} {c' : Scope} (hd : d ≤ 16) (hx : XT cf (tyFr fr) h k t) (ho : okS b = true) (hs : chS cf.vs cf.cs ret b (tyFr fr) [] lp = .ok c')
  (hn : nd cf.allowed Z d m.steps (k.sz + b.sz + 2) ≤ n + 1) : whileV cf ev d fr h k b m ≠ .lost := by
 unfold whileV
 refine Out.nl_bind (hg.E _ _ _ _ _ t hd hx (by unfold nd at hn ⊢; omega)) fun c m1 e1 => ?_
 have hs1 := (Out.from_ok (hq.E _ _ _ _ _) e1).1
 split
 ·intro q; cases q
 refine Out.nl_bind (hg.L _ _ _ _ ret lp c' hd ho hs ?_) fun q m2 e2 => ?_
 ·have := nd_mono (A := cf.allowed) (Z := Z) (d := d) hs1 (show (b.sz + 1) + 1 ≤ k.sz + b.sz + 2 by omega)
  omega
 have hs2 := (Out.from_ok (hq.L _ _ _ _) e2).1
 have ht2 := Out.ty_ok (ht.L _ _ _ _) e2
 split
 ·intro q; cases q
 split
 ·intro q; cases q
 refine Out.nl_bind (tick_nl _ _) fun _ m3 e3 => ?_
 obtain ⟨a1, a2⟩ := tick_ok' e3
 refine hg.W _ _ _ _ _ _ t ret lp c' hd (by rw [ht2]; exact hx) ho (by rw [ht2]; exact hs) ?_
 have := nd_tick (A := cf.allowed) (Z := Z) (d := d) (s := m.steps) (s' := m3.steps) (z := k.sz + b.sz + 2) (by omega) (by omega)
 omega
include hz
omit hq ht in
theorem funcV_nl {d : Nat} {s : ByteArray} {g : Sig} {l : List Int} {m : MS} (hd : d ≤ 16) (hs : getM s cf.cs = some g) (hh : g.host < 0) (hl : l.length = g.params.length) (hn : nd cf.allowed Z d m.steps 0 ≤ n + 1) : funcV cf ev d g l m ≠ .lost := by
 obtain ⟨f, h1, h2⟩ := (hc.call s g hs).1 hh
 have hf := List.mem_of_getElem? h1
 obtain ⟨h3, sc, c, h4, h5⟩ := hc.fn f hf
 unfold funcV
 split
 ·intro q; cases q
 ·rename_i hd2
  rw [h1]
  simp only []
  refine Out.nl_bind (hg.L _ _ _ _ f.type 0 c (by omega) h3 ?_ ?_) fun q m1 _ q => by cases q
  ·have := addPars_ty cf.vs cf.cs f.params l [] [] sc h4 rfl (by rw [hl, h2])
   rw [h2] at this
   rw [show tyFr [parSc g.params l []] = [tySc (parSc g.params l [])] from rfl, this]
   exact h5
  ·have := nd_call (A := cf.allowed) (Z := Z) (d := d) (s := m.steps) (s' := m.steps) (z := f.body.sz + 1) (by omega) (Nat.le_refl _) (by have := hz f hf; omega)
   omega
end
theorem evl_nl {cf : Cf} {Z : Nat} (hc : cf.Ok) (hz : ∀ f ∈ cf.fs, f.body.sz ≤ Z) : ∀ n, (evl cf n).NL cf Z n
 | 0 => ⟨fun d fr h k m t hd _ hn => by have := nd_pos (A := cf.allowed) (Z := Z) (s := m.steps) (z := k.sz + 1) hd; omega, fun d fr l m ret lp c' hd _ _ hn => by have := nd_pos (A := cf.allowed) (Z := Z) (s := m.steps) (z := l.sz + 1) hd; omega,
   fun d fr h k b m t ret lp c' hd _ _ _ hn => by have := nd_pos (A := cf.allowed) (Z := Z) (s := m.steps) (z := k.sz + b.sz + 2) hd; omega, fun d s g l m hd _ _ _ hn => by have := nd_pos (A := cf.allowed) (Z := Z) (s := m.steps) (z := 0) hd; omega⟩
 | n + 1 => ⟨fun d fr h k m t hd hx hn => exprV_nl hc (evl_nl hc hz n) (evl_good cf n) hd hx hn, fun d fr l m ret lp c' hd ho hs hn => listV_nl (evl_nl hc hz n) (evl_good cf n) (evl_ty cf n) hd ho hs hn,
   fun d fr h k b m t ret lp c' hd hx ho hs hn => whileV_nl (evl_nl hc hz n) (evl_good cf n) (evl_ty cf n) hd hx ho hs hn, fun d s g l m hd hs hh hl hn => funcV_nl hc hz (evl_nl hc hz n) hd hs hh hl hn⟩
end
end Go.Proofs.YtlabadkfkbenoaaGreatDoor
