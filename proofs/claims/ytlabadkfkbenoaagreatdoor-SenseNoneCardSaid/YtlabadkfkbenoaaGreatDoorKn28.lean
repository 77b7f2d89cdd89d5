/- Walks and plain laws, merged: IntC EvlR. No condition. -/
import Derived.Test.YtlabadkfkbenoaaGreatDoorKn27
import Derived.Laws.FloatBits
import Derived.Test.YtlabadkfkbenoaaGreatDoorKn26
namespace Go.Proofs.YtlabadkfkbenoaaGreatDoor
open Go.RowKit
set_option linter.unusedVariables false
set_option linter.unusedSimpArgs false
set_option maxRecDepth 100000
section
open Go.Shelf
def hc2 : List ByteArray → List Value → List Value
 | a :: r, x :: xs => .string a :: x :: hc2 r xs
 | _, _ => []
theorem hc2_at : ∀ (nms : List ByteArray) (xs : List Value) (i : Nat) (h : i < xs.length), xs.length = nms.length → (hc2 nms xs)[i * 2 + 1]? = some xs[i]
 | [], [], i, h, _ => by simp at h
 | [], _ :: _, _, _, h => by simp at h
 | _ :: _, [], _, h, _ => by simp at h
 | a :: r, x :: xs, 0, h, _ => rfl
 | a :: r, x :: xs, i + 1, h, h2 => by
  have := hc2_at r xs i (by simpa using h) (by simpa using h2)
  simp only [hc2, List.getElem_cons_succ]
  rw [show (i + 1) * 2 + 1 = (i * 2 + 1) + 1 + 1 by omega]
  simpa using this
/-- how each kind of expression is worked out -/
def kindsL (M kc : Nat) : List (Int × Value) := [(1, .func (.func 74) #[] #[]), (2, .func (.func 74) #[] #[]), (3, .func (.func 75) #[] #[.pointer (some ⟨kc, 0, none⟩)]), (4, .func (.func 77) #[] #[.pointer (some ⟨kc, 0, none⟩)]), (5, .func (.func 80) #[.pointer (some ⟨M, 0, none⟩)] #[]),
 (6, .func (.func 81) #[.pointer (some ⟨M, 0, none⟩)] #[]), (7, .func (.func 82) #[.pointer (some ⟨M, 0, none⟩)] #[]), (8, .func (.func 83) #[] #[.pointer (some ⟨kc, 0, none⟩)])]
/-- what stays in a call: n is where it began -/
structure MSt (p : Pt) (cf : Cf) (u : UT) (n : Nat) (w : World) : Prop where
 X : Bx w p.X #[p.vg, p.vh, p.vf, .map (some p.vb), .map (some p.cb), p.hv, .map (some p.pb)] 94
 unit : UIn (onlyW w (oldB p.B)) false none u (.agg #[p.vg, p.vh, p.vf])
 nm : NmR (onlyW w (oldB p.B)) cf.vs cf.cs p.vb p.cb
 place : Mp w p.pb (cf.pl.map fun x => (x.1, Value.int .i64 x.2))
 held : w.ownsRow p.B 82 2 p.hv p.xs.length (hc2 p.nms p.xs)
 hlen : p.xs.length = p.nms.length
 vals : ∃ ka kb koff kcap, p.vv = .slice ka cf.values.length kcap ∧ (cf.values.length = 0 ∨ ka = some ⟨kb, koff, none⟩) ∧ (cf.values.length = 0 ∨ (kb < n ∧ ¬ p.T kb)) ∧ ∀ i (h : i < cf.values.length), w.cell? ⟨kb, koff + i, none⟩ = some (.int .u32 cf.values[i])
 pl : ∀ s x, getM s cf.vs = some x → ∃ i : Nat, getM s cf.pl = some (i : Int) ∧ i < p.xs.length
 hs : u.hs = cf.hs
 fs : u.fs = cf.fs
 lX : p.X < n
 lv : p.vb < p.B
 lc : p.cb < p.B
 lp : p.pb < p.B
 M : p.B ≤ p.M
 Bn : p.B ≤ n
 lh : ∀ b, p.hv.ownBlock = some b → b < n
 lx : ∀ x ∈ p.xs, ∀ b, x.ownBlock = some b → b < n
 kinds : MpI w p.kb (kindsL p.M p.kc)
 kbox : Bx w p.kc #[.pointer (some ⟨p.M, 0, none⟩)] 116
 lk : p.kb < n
 lkc : p.kc < n
 vlen : cf.values.length ≤ 1000000000
theorem own_from {w : World} {base : Nat} {e : TypeId} {size k : Nat} {v : Value} {ys : List Value} (h : w.ownsRow base e size v k ys) {b : Nat} (hb : v.ownBlock = some b) : base ≤ b := by
 rcases h.2 with ⟨rfl, _⟩ | ⟨g, cap, cur, rfl, hg, _⟩
 ·cases hb
 ·cases hb
  exact hg
theorem Kpt.own {T : Nat → Prop} {k : Nat} {w w' : World} (h : Kpt T k w w') {base : Nat} {e : TypeId} {size j : Nat} {v : Value} {ys : List Value} (hr : w.ownsRow base e size v j ys) (hb : ∀ b, v.ownBlock = some b → b < k ∧ ¬ T b) : w'.ownsRow base e size v j ys := by
 refine ⟨hr.1, ?_⟩
 rcases hr.2 with q | ⟨g, cap, cur, rfl, h1, h2, h3⟩
 ·exact .inl q
 ·exact .inr ⟨g, cap, cur, rfl, h1, (h.block g (hb g rfl).1 (hb g rfl).2).trans h2, h3⟩
theorem EvR.base {w : World} {n : Nat} {evs : List Ev} {vas : List Value} {ats : List Nil0} {ve : Value} (h : EvR w n evs vas ats ve) {b : Nat} (hb : ve.ownBlock = some b) : n ≤ b := own_from h.row hb
/-- no block ahead of B is altered -/
theorem MeR.old {p : Pt} {a n d : Nat} {m : MS} {ve : EvS} {w : World} (h : MeR p a n d m ve w) (hM : p.B ≤ p.M) (hn : p.B ≤ n) {b : Nat} (hb : b < p.B) : ¬ p.TE ve b := by
 rintro ((rfl | ⟨x, hx, hq⟩) | hq)
 ·omega
 ·obtain ⟨i, hi, rfl⟩ := List.getElem_of_mem hx
  have := own_from (h.words i hi (by have := h.len; omega)) hq
  omega
 ·obtain ⟨ats, he⟩ := h.evs
  have := he.base hq
  omega
/-- a row of another type is none of a call's -/
theorem MeR.other {p : Pt} {a n d : Nat} {m : MS} {ve : EvS} {w : World} (h : MeR p a n d m ve w) {base : Nat} {e : TypeId} {size k : Nat} {v : Value} {ys : List Value} (hr : w.ownsRow base e size v k ys) (h1 : e ≠ 119) (h2 : e ≠ 52) (h3 : e ≠ 127) {b : Nat} (hb : v.ownBlock = some b) : ¬ p.TE ve b := by
 obtain ⟨en, va, fa, hx⟩ := h.box
 rintro ((rfl | ⟨x, hx2, hq⟩) | hq)
 ·exact hx.not_row hr (Ne.symm h1) hb.symm
 ·obtain ⟨i, hi, rfl⟩ := List.getElem_of_mem hx2
  rcases row_ne hr (h.words i hi (by have := h.len; omega)) h2 with e1 | e1
  ·rw [e1] at hb; cases hb
  ·exact e1 (by rw [hb, hq])
 ·obtain ⟨ats, he⟩ := h.evs
  rcases row_ne hr he.row h3 with e1 | e1
  ·rw [e1] at hb; cases hb
  ·exact e1 (by rw [hb, hq])
theorem row_block {w : World} {base : Nat} {e : TypeId} {size k : Nat} {v : Value} {ys : List Value} (h : w.ownsRow base e size v k ys) {b : Nat} (hb : v.ownBlock = some b) : ∃ cs, Bx w b cs e := by
 rcases h.2 with ⟨rfl, _⟩ | ⟨g, cap, cur, rfl, _, hg, _⟩
 ·cases hb
 ·cases hb
  exact ⟨cur, hg⟩
/-- what a call alters has one of three types -/
theorem MeR.blocks {p : Pt} {a n d : Nat} {m : MS} {ve : EvS} {w : World} (h : MeR p a n d m ve w) {b : Nat} (hb : p.TE ve b) : ∃ cs t, Bx w b cs t ∧ (t = 119 ∨ t = 52 ∨ t = 127) := by
 obtain ⟨en, va, fa, hx⟩ := h.box
 rcases hb with (rfl | ⟨x, hx2, hq⟩) | hq
 ·exact ⟨_, _, hx, .inl rfl⟩
 ·obtain ⟨i, hi, rfl⟩ := List.getElem_of_mem hx2
  obtain ⟨cs, hc⟩ := row_block (h.words i hi (by have := h.len; omega)) hq
  exact ⟨cs, _, hc, .inr (.inl rfl)⟩
 ·obtain ⟨ats, he⟩ := h.evs
  obtain ⟨cs, hc⟩ := row_block he.row hq
  exact ⟨cs, _, hc, .inr (.inr rfl)⟩
theorem MeR.notBox {p : Pt} {a n d : Nat} {m : MS} {ve : EvS} {w : World} (h : MeR p a n d m ve w) {q : Nat} {cs : Array Value} {t : TypeId} (hx : Bx w q cs t) (h1 : t ≠ 119) (h2 : t ≠ 52) (h3 : t ≠ 127) : ¬ p.TE ve q := fun hq => by
 obtain ⟨cs2, t2, hb, ht⟩ := h.blocks hq
 unfold Bx at hx hb
 rw [hx] at hb
 simp at hb
 obtain ⟨-, rfl⟩ := hb
 rcases ht with e | e | e
 ·exact h1 e
 ·exact h2 e
 ·exact h3 e
theorem MeR.notMap {p : Pt} {a n d : Nat} {m : MS} {ve : EvS} {w : World} (h : MeR p a n d m ve w) {b : Nat} {es : Array MapEntry} {c : Nat} (hm : w.heap[b]? = some (.map es c)) : ¬ p.TE ve b := fun hq => by
 obtain ⟨cs2, t2, hb, ht⟩ := h.blocks hq
 unfold Bx at hb
 rw [hm] at hb
 cases hb
/-- what stays, over a walk -/
theorem MSt.move {p : Pt} {cf : Cf} {u : UT} {n : Nat} {w w' : World} (h : MSt p cf u n w) {a d : Nat} {m : MS} {ve : EvS} (hm : MeR p a n d m ve w) {k : Nat} (hk : Kpt (p.TE ve) k w w') (hn : n ≤ k) : MSt p cf u n w' := by
 have old : ∀ b, b < p.B → b < k ∧ ¬ p.TE ve b := fun b hb => ⟨by have := h.Bn; omega, hm.old h.M h.Bn hb⟩
 have hc : Cells (onlyW w (oldB p.B)) (onlyW w' (oldB p.B)) := hk.cells fun b hb => old b (by simpa using hb)
 have mv : ∀ {b l}, b < p.B → Mp (onlyW w (oldB p.B)) b l → Mp (onlyW w' (oldB p.B)) b l := fun {b l} hb hq => map_only (hk.map (map_whole hq (by simpa using hb)) (old b hb).1 (old b hb).2) (by simpa using hb)
 obtain ⟨ka, kb, koff, kcap, v1, v2, v4, v3⟩ := h.vals
 have hv : ∀ i (hi : i < cf.values.length), w'.cell? ⟨kb, koff + i, none⟩ = some (.int .u32 cf.values[i]) := fun i hi => by
  rcases v4 with q | ⟨q1, q2⟩
  ·omega
  have hne : ¬ p.TE ve kb := by
   rintro (q | q)
   ·exact q2 q
   ·obtain ⟨ats, he⟩ := hm.evs
    have := he.base q
    omega
  have hb := hk.block kb (by omega) hne
  have := v3 i hi
  unfold World.cell? at this ⊢
  rw [hb]
  exact this
 obtain ⟨c1, l, c2, c3⟩ := h.nm
 exact ⟨hk.box h.X (by have := h.lX; omega) (hm.notBox h.X (by decide) (by decide) (by decide)), h.unit.sub hc, ⟨mv h.lv c1, l, mv h.lc c2, c3.sub hc⟩, hk.map h.place (old _ h.lp).1 (old _ h.lp).2,
  hk.own h.held fun b hb => ⟨by have := h.lh b hb; omega, hm.other h.held (by decide) (by decide) (by decide) hb⟩, h.hlen, ⟨ka, kb, koff, kcap, v1, v2, v4, hv⟩, h.pl, h.hs, h.fs, h.lX, h.lv, h.lc, h.lp, h.M, h.Bn, h.lh, h.lx,
  by obtain ⟨es, c, q1, q2⟩ := h.kinds; exact ⟨es, c, (hk.block _ (by have := h.lk; omega) (hm.notMap q1)).trans q1, q2⟩, hk.box h.kbox (by have := h.lkc; omega) (hm.notBox h.kbox (by decide) (by decide) (by decide)), h.lk, h.lkc, h.vlen⟩
end
section
abbrev U (x : Int) : Prop := 0 ≤ x ∧ x < 4294967296
def MS.Rg (m : MS) : Prop := ∀ q ∈ m.held, ∀ x ∈ q, U x
def Fr.Rg (fr : Fr) : Prop := ∀ sc ∈ fr, ∀ x ∈ sc, U x.2.2
def Out.Rg {α : Type} (P : α → Prop) : Out α → Prop
 | .ok a m => P a ∧ m.Rg
 | .stop _ _ m => m.Rg
 | .lost => True
theorem Out.rg_bind {α β : Type} {P : α → Prop} {Q : β → Prop} {o : Out α} {f : α → MS → Out β} (h : o.Rg P) (hf : ∀ a m, P a → m.Rg → (f a m).Rg Q) : (o.bind f).Rg Q := by
 cases o with
 | ok a m => exact hf a m h.1 h.2
 | stop k x m => exact h
 | lost => trivial
structure AluRg (A : Alu) : Prop where
 one : ∀ op a, U a → U (A.U op a)
 two : ∀ op a b r, U a → U b → A.B op a b = some r → U r
structure Cf.Rg (cf : Cf) : Prop where
 alu : AluRg cf.alu
 values : ∀ x ∈ cf.values, U x
 body : ∀ f ∈ cf.fs, f.body.Wf
theorem getM_in' {α : Type} (s : ByteArray) : ∀ (l : List (ByteArray × α)) (v : α), getM s l = some v → ∃ k, (k, v) ∈ l
 | [], v, h => by cases h
 | x :: l, v, h => by
  rw [getM_cons] at h
  split at h
  ·cases h
   exact ⟨x.1, by simp⟩
  ·obtain ⟨k, hk⟩ := getM_in' s l v h
   exact ⟨k, by simp [hk]⟩
theorem putM_in {α : Type} (s : ByteArray) (v : α) : ∀ (l : List (ByteArray × α)) (x : ByteArray × α), x ∈ putM s v l → x = (s, v) ∨ x ∈ l
 | [], x, h => by simp [putM] at h; exact .inl h
 | y :: l, x, h => by
  simp only [putM] at h
  split at h
  ·rcases List.mem_cons.1 h with q | q
   ·exact .inl q
   ·exact .inr (by simp [q])
  ·rcases List.mem_cons.1 h with q | q
   ·exact .inr (by simp [q])
   ·rcases putM_in s v l x q with q | q
    ·exact .inl q
    ·exact .inr (by simp [q])
theorem seesF_in {s : ByteArray} {fr : Fr} {t : Int × Int} (h : seesF s fr = some t) : ∃ sc ∈ fr, ∃ k, (k, t) ∈ sc := by
 suffices ∀ (fr : Fr) (a : Option (Int × Int)), fr.foldl (fun a sc => match getM s sc with | some t => some t | none => a) a = some t → a = some t ∨ ∃ sc ∈ fr, ∃ k, (k, t) ∈ sc by
  rcases this fr none h with q | q
  ·cases q
  ·exact q
 intro fr
 induction fr with
 | nil => intro a h; exact .inl h
 | cons c r ih =>
  intro a h
  simp only [List.foldl_cons] at h
  rcases ih _ h with q | ⟨sc, q1, q2⟩
  ·cases hg : getM s c with
   | none => rw [hg] at q; exact .inl q
   | some y =>
    rw [hg] at q
    cases q
    exact .inr ⟨c, by simp, getM_in' s c _ hg⟩
  ·exact .inr ⟨sc, by simp [q1], q2⟩
theorem wordsAt_rg {cf : Cf} {m : MS} (hm : m.Rg) (s : ByteArray) : ∀ x ∈ wordsAt cf m s, U x := by
 intro x hx
 unfold wordsAt at hx
 rw [List.getD_eq_getElem?_getD] at hx
 cases hq : m.held[placeOf cf s]? with
 | none => rw [hq] at hx; simp at hx
 | some l => rw [hq] at hx; exact hm l (List.mem_of_getElem? hq) x (by simpa using hx)
theorem readV_rg {cf : Cf} {fr : Fr} {m : MS} (hf : fr.Rg) (hm : m.Rg) (s : ByteArray) : U (readV cf fr m s).2 := by
 unfold readV
 cases hs : seesF s fr with
 | some x =>
  obtain ⟨sc, h1, k, h2⟩ := seesF_in hs
  exact hf sc h1 _ h2
 | none =>
  show U ((wordsAt cf m s).getD 0 0)
  rw [List.getD_eq_getElem?_getD]
  cases hq : (wordsAt cf m s)[0]? with
  | none => exact ⟨by decide, by decide⟩
  | some y => exact wordsAt_rg hm s y (List.mem_of_getElem? hq)
theorem setF_rg {s : ByteArray} {v : Int} (hv : U v) : ∀ {fr : Fr}, fr.Rg → Fr.Rg (setF s v fr)
 | [], h => h
 | c :: r, h => by
  have h1 : ∀ x ∈ c, U x.2.2 := h c (by simp)
  have h2 : Fr.Rg r := fun sc hs => h sc (by simp [hs])
  unfold setF
  split
  ·intro sc hs
   rcases List.mem_cons.1 hs with rfl | q
   ·exact h1
   ·exact setF_rg hv h2 sc q
  ·split
   ·intro sc hs
    rcases List.mem_cons.1 hs with rfl | q
    ·intro x hx
     rcases putM_in _ _ _ _ hx with rfl | q
     ·exact hv
     ·exact h1 x q
    ·exact h2 sc q
   ·exact h
theorem giveF_rg {s : ByteArray} {x : Int × Int} (hv : U x.2) {fr : Fr} (h : fr.Rg) : Fr.Rg (giveF s x fr) := by
 intro sc hs
 unfold giveF at hs
 rcases List.mem_append.1 hs with q | q
 ·exact h sc (List.dropLast_subset _ q)
 ·simp only [List.mem_singleton] at q
  subst q
  intro y hy
  rcases putM_in _ _ _ _ hy with rfl | q
  ·exact hv
  ·cases hl : fr.getLast? with
   | none => simp [List.getLastD_eq_getLast?, hl] at q
   | some z =>
    rw [List.getLastD_eq_getLast?, hl] at q
    exact h z (List.mem_of_getLast? hl) y (by simpa using q)
theorem putW_rg {cf : Cf} {m : MS} (hm : m.Rg) (s : ByteArray) (i : Nat) {v : Int} (hv : U v) : (putW cf m s i v).Rg := by
 intro q hq x hx
 have hq2 : q ∈ m.held.set (placeOf cf s) ((wordsAt cf m s).set i v) := hq
 rcases List.mem_or_eq_of_mem_set hq2 with h | rfl
 ·exact hm q h x hx
 ·rcases List.mem_or_eq_of_mem_set hx with h | rfl
  ·exact wordsAt_rg hm s x h
  ·exact hv
theorem writeV_rg {cf : Cf} {fr : Fr} {m : MS} (hf : fr.Rg) (hm : m.Rg) (s : ByteArray) {v : Int} (hv : U v) : (writeV cf fr m s v).1.Rg ∧ (writeV cf fr m s v).2.Rg := by
 unfold writeV
 split
 ·exact ⟨setF_rg hv hf, hm⟩
 ·exact ⟨hf, putW_rg hm s 0 hv⟩
theorem truth_rg (b : Bool) : U (truth b) := by cases b <;> exact ⟨by decide, by decide⟩
theorem workedV_rg {A : Alu} (hA : AluRg A) {s : ByteArray} {t a b r : Int} (ha : U a) (hb : U b) (h : workedV A s t a b = some r) : U r := by
 unfold workedV at h
 simp only [] at h
 split at h
 ·cases h
  split <;> exact ⟨by decide, by decide⟩
 ·exact hA.two _ _ _ _ ha hb h
theorem tick_rg (cf : Cf) {m : MS} (hm : m.Rg) : (tick cf m).Rg fun _ => True := by
 unfold tick
 split
 ·exact hm
 ·exact ⟨trivial, hm⟩
abbrev Lr (q : Int × Int × Fr) : Prop := U q.2.1 ∧ q.2.2.Rg
theorem U0 : U 0 := ⟨by decide, by decide⟩
structure Evl.Rg (ev : Evl) : Prop where
 E : ∀ d fr h k m, h.Wf → k.Wf → fr.Rg → m.Rg → (ev.E d fr h k m).Rg U
 L : ∀ d fr l m, l.Wf → fr.Rg → m.Rg → (ev.L d fr l m).Rg Lr
 W : ∀ d fr h k b m, h.Wf → k.Wf → b.Wf → fr.Rg → m.Rg → (ev.W d fr h k b m).Rg Lr
 F : ∀ d g l m, (∀ x ∈ l, U x) → m.Rg → (ev.F d g l m).Rg U
theorem Exs.wf_at : ∀ {l : Exs}, l.Wf → ∀ (i : Nat) (a : EH × Exs), l.toL[i]? = some a → a.1.Wf ∧ a.2.Wf
 | .nil, _, i, a, h => by simp [Exs.toL] at h
 | .cons h k r, hw, i, a, ha => by
  cases i with
  | zero =>
   simp only [Exs.toL, List.getElem?_cons_zero, Option.some.injEq] at ha
   subst ha
   exact ⟨hw.1, hw.2.1⟩
  | succ i =>
   simp only [Exs.toL, List.getElem?_cons_succ] at ha
   exact Exs.wf_at hw.2.2 i a ha
section
variable {cf : Cf} {ev : Evl} (hc : cf.Rg) (hg : ev.Rg)
include hg
theorem evK_rg (d : Nat) {fr : Fr} {l : Exs} (i : Nat) {m : MS} (hl : l.Wf) (hf : fr.Rg) (hm : m.Rg) : (evK ev d fr l i m).Rg U := by
 unfold evK
 split
 ·rename_i a ha
  exact hg.E _ _ _ _ _ (Exs.wf_at hl i a ha).1 (Exs.wf_at hl i a ha).2 hf hm
 ·trivial
theorem evArgs_rg (d : Nat) {fr : Fr} (hf : fr.Rg) : ∀ {l : Exs} {m : MS}, l.Wf → m.Rg → (evArgs ev d fr l m).Rg fun l => ∀ x ∈ l, U x
 | .nil, m, _, hm => ⟨fun x hx => by simp at hx, hm⟩
 | .cons h k r, m, hw, hm => Out.rg_bind (hg.E _ _ _ _ _ hw.1 hw.2.1 hf hm) fun v m1 hv hm1 => Out.rg_bind (evArgs_rg d hf hw.2.2 hm1) fun l m2 hl hm2 => ⟨fun x hx => by
   rcases List.mem_cons.1 hx with rfl | q
   ·exact hv
   ·exact hl x q, hm2⟩
include hc
theorem exprB_rg (d : Nat) {fr : Fr} {h : EH} {k : Exs} {m : MS} (hw : h.Wf) (hk : k.Wf) (hf : fr.Rg) (hm : m.Rg) : (exprB cf ev d fr h k m).Rg U := by
 have HW := hid hw.1
 clear hw
 unfold exprB
 split
 ·exact ⟨HW.out, hm⟩
 split
 ·exact ⟨readV_rg hf hm _, hm⟩
 split
 ·refine Out.rg_bind (evK_rg hg _ _ hk hf hm) fun i m1 hi hm1 => ?_
  split
  ·rename_i x hx
   exact ⟨wordsAt_rg hm1 _ x (List.mem_of_getElem? hx), hm1⟩
  ·exact hm1
 split
 ·refine Out.rg_bind (evArgs_rg hg _ hf hk hm) fun args m1 ha hm1 => ?_
  split
  ·trivial
  ·split
   ·exact hg.F _ _ _ _ ha hm1
   ·unfold hostV
    split
    ·exact hm1
    ·rename_i v hv
     split
     ·trivial
     ·exact ⟨hc.values v (List.mem_of_getElem? hv), hm1⟩
 split
 ·refine Out.rg_bind (evK_rg hg _ _ hk hf hm) fun v m1 hv hm1 => ?_
  split
  ·exact ⟨hc.alu.one _ _ hv, hm1⟩
  split
  ·exact ⟨truth_rg _, hm1⟩
  split
  ·exact ⟨hc.alu.one _ _ hv, hm1⟩
  ·exact ⟨hc.alu.one _ _ hv, hm1⟩
 split
 ·refine Out.rg_bind (evK_rg hg _ _ hk hf hm) fun a m1 ha hm1 => ?_
  split
  ·exact ⟨U0, hm1⟩
  split
  ·exact ⟨⟨by decide, by decide⟩, hm1⟩
  refine Out.rg_bind (evK_rg hg _ _ hk hf hm1) fun b m2 hb hm2 => ?_
  split
  ·exact ⟨truth_rg _, hm2⟩
  ·split
   ·rename_i x hx
    exact ⟨workedV_rg hc.alu ha hb hx, hm2⟩
   ·exact hm2
 split
 ·refine Out.rg_bind (evK_rg hg _ _ hk hf hm) fun v m1 hv hm1 => ?_
  split
  ·exact ⟨hv, hm1⟩
  split
  ·exact ⟨hc.alu.one _ _ hv, hm1⟩
  ·exact ⟨hc.alu.one _ _ hv, hm1⟩
 ·trivial
theorem setV_rg (d : Nat) {fr : Fr} (h : SH) {x : Exs} {m : MS} (hx : x.Wf) (hf : fr.Rg) (hm : m.Rg) : (setV cf ev d fr h x m).Rg Fr.Rg := by
 unfold setV
 refine Out.rg_bind (evK_rg hg _ _ hx hf hm) fun v m2 hv hm2 => ?_
 split
 ·exact writeV_rg hf hm2 _ hv
 ·split
  ·rename_i r hr
   exact writeV_rg hf hm2 _ (workedV_rg hc.alu (readV_rg hf hm _) hv hr)
  ·exact hm2
theorem putV_rg (d : Nat) {fr : Fr} (h : SH) {x : Exs} {m : MS} (hx : x.Wf) (hf : fr.Rg) (hm : m.Rg) : (putV cf ev d fr h x m).Rg fun _ => True := by
 unfold putV
 refine Out.rg_bind (evK_rg hg _ _ hx hf hm) fun i m1 hi hm1 => ?_
 split
 ·exact hm1
 ·rename_i old ho
  refine Out.rg_bind (evK_rg hg _ _ hx hf hm1) fun v m2 hv hm2 => ?_
  split
  ·exact ⟨trivial, putW_rg hm2 _ _ hv⟩
  ·split
   ·rename_i r hr
    exact ⟨trivial, putW_rg hm2 _ _ (workedV_rg hc.alu (wordsAt_rg hm1 _ old (List.mem_of_getElem? ho)) hv hr)⟩
   ·exact hm2
theorem stmtV_rg (d : Nat) {fr : Fr} (h : SH) {x : Exs} {b e : Sts} {m : MS} (hx : x.Wf) (hb : b.Wf) (he : e.Wf) (hf : fr.Rg) (hm : m.Rg) : (stmtV cf ev d fr h x b e m).Rg Lr := by
 unfold stmtV
 refine Out.rg_bind (tick_rg _ hm) fun _ m1 _ hm1 => ?_
 split
 ·exact Out.rg_bind (evK_rg hg _ _ hx hf hm1) fun v m2 hv hm2 => ⟨⟨U0, giveF_rg hv hf⟩, hm2⟩
 split
 ·exact Out.rg_bind (setV_rg hc hg _ _ hx hf hm1) fun fr2 m2 hf2 hm2 => ⟨⟨U0, hf2⟩, hm2⟩
 split
 ·exact Out.rg_bind (putV_rg hc hg _ _ hx hf hm1) fun _ m2 _ hm2 => ⟨⟨U0, hf⟩, hm2⟩
 split
 ·refine Out.rg_bind (evK_rg hg _ _ hx hf hm1) fun c m2 _ hm2 => ?_
  split
  ·exact hg.L _ _ _ _ he hf hm2
  ·exact hg.L _ _ _ _ hb hf hm2
 split
 ·split
  ·rename_i a ha
   exact hg.W _ _ _ _ _ _ (Exs.wf_at hx 0 a ha).1 (Exs.wf_at hx 0 a ha).2 hb hf hm1
  ·trivial
 split
 ·exact ⟨⟨U0, hf⟩, hm1⟩
 split
 ·exact ⟨⟨U0, hf⟩, hm1⟩
 split
 ·exact Out.rg_bind (evK_rg hg _ _ hx hf hm1) fun v m2 hv hm2 => ⟨⟨hv, hf⟩, hm2⟩
 split
 ·exact Out.rg_bind (evK_rg hg _ _ hx hf hm1) fun v m2 hv hm2 => ⟨⟨U0, hf⟩, hm2⟩
 ·exact ⟨⟨U0, hf⟩, hm1⟩
theorem stmtsV_rg (d : Nat) : ∀ {l : Sts} {fr : Fr} {m : MS}, l.Wf → fr.Rg → m.Rg → (stmtsV cf ev d l fr m).Rg Lr
 | .nil, fr, m, _, hf, hm => ⟨⟨U0, hf⟩, hm⟩
 | .cons h x b e r, fr, m, hw, hf, hm => by
  unfold stmtsV
  refine Out.rg_bind (stmtV_rg hc hg d h hw.2.1 hw.2.2.1 hw.2.2.2.1 hf hm) fun q m1 hq hm1 => ?_
  split
  ·exact stmtsV_rg d hw.2.2.2.2 hq.2 hm1
  ·exact ⟨hq, hm1⟩
theorem listV_rg (d : Nat) {fr : Fr} {l : Sts} {m : MS} (hl : l.Wf) (hf : fr.Rg) (hm : m.Rg) : (listV cf ev d fr l m).Rg Lr := by
 unfold listV
 refine Out.rg_bind (stmtsV_rg hc hg d hl ?_ hm) fun q m1 hq hm1 => ⟨⟨hq.1, fun sc hs => hq.2 sc (List.dropLast_subset _ hs)⟩, hm1⟩
 intro sc hs
 rcases List.mem_append.1 hs with q | q
 ·exact hf sc q
 ·simp only [List.mem_singleton] at q
  subst q
  intro x hx
  simp at hx
omit hc in
theorem whileV_rg (d : Nat) {fr : Fr} {h : EH} {k : Exs} {b : Sts} {m : MS} (hh : h.Wf) (hk : k.Wf) (hb : b.Wf) (hf : fr.Rg) (hm : m.Rg) : (whileV cf ev d fr h k b m).Rg Lr := by
 unfold whileV
 refine Out.rg_bind (hg.E _ _ _ _ _ hh hk hf hm) fun c m1 _ hm1 => ?_
 split
 ·exact ⟨⟨U0, hf⟩, hm1⟩
 ·refine Out.rg_bind (hg.L _ _ _ _ hb hf hm1) fun q m2 hq hm2 => ?_
  split
  ·exact ⟨hq, hm2⟩
  split
  ·exact ⟨⟨U0, hq.2⟩, hm2⟩
  ·exact Out.rg_bind (tick_rg _ hm2) fun _ m3 _ hm3 => hg.W _ _ _ _ _ _ hh hk hb hq.2 hm3
theorem funcV_rg (d : Nat) (g : Sig) {l : List Int} {m : MS} (hl : ∀ x ∈ l, U x) (hm : m.Rg) : (funcV cf ev d g l m).Rg U := by
 have par : ∀ (ps : List PW) (l : List Int) (sc : LSc), (∀ x ∈ l, U x) → (∀ x ∈ sc, U x.2.2) → ∀ x ∈ parSc ps l sc, U x.2.2 := by
  intro ps
  induction ps with
  | nil => intro l sc _ h; cases l <;> exact h
  | cons p r ih =>
   intro l sc hl h
   cases l with
   | nil => exact h
   | cons a l =>
    refine ih l _ (fun x hx => hl x (by simp [hx])) (fun x hx => ?_)
    rcases putM_in _ _ _ _ hx with rfl | q
    ·exact hl a (by simp)
    ·exact h x q
 unfold funcV
 split
 ·exact hm
 ·split
  ·trivial
  ·rename_i f hf
   refine Out.rg_bind (hg.L _ _ _ _ (hc.body f (List.mem_of_getElem? hf)) (fun sc hs => ?_) hm) fun q m1 hq hm1 => ⟨hq.1, hm1⟩
   simp only [List.mem_singleton] at hs
   subst hs
   exact par _ _ _ hl (fun x hx => by simp at hx)
end
theorem evl_rg {cf : Cf} (hc : cf.Rg) : ∀ n, (evl cf n).Rg
 | 0 => ⟨fun _ _ _ _ _ _ _ _ _ => trivial, fun _ _ _ _ _ _ _ => trivial, fun _ _ _ _ _ _ _ _ _ _ _ => trivial, fun _ _ _ _ _ _ => trivial⟩
 | n + 1 => ⟨fun d fr h k m hh hk hf hm => Out.rg_bind (tick_rg _ hm) fun _ m1 _ hm1 => exprB_rg hc (evl_rg hc n) _ hh hk hf hm1, fun d fr l m hl hf hm => listV_rg hc (evl_rg hc n) _ hl hf hm,
  fun d fr h k b m hh hk hb hf hm => whileV_rg (evl_rg hc n) _ hh hk hb hf hm, fun d g l m hl hm => funcV_rg hc (evl_rg hc n) _ _ hl hm⟩
/-! ### the arithmetic unit's -/
theorem U_mod (x : Int) : U (x % 4294967296) := by
 have h1 := Int.emod_nonneg x (by decide : (4294967296 : Int) ≠ 0)
 have h2 := Int.emod_lt_of_pos x (by decide : (0 : Int) < 4294967296)
 exact ⟨h1, h2⟩
theorem U_wrap (x : Int) : U (IntKind.u32.wrap x) := by
 have : IntKind.u32.wrap x = x % 4294967296 := by unfold IntKind.wrap; simp [IntKind.signed, IntKind.bits]
 rw [this]
 exact U_mod x
theorem U_word {r : Nat} (h : r < 4294967296) : U (wordN r) := by
 unfold wordN
 split
 ·exact ⟨by decide, by decide⟩
 ·exact ⟨by omega, by omega⟩
theorem U_bits (op : BinOp) (a b : Int) : U (bits op .u32 a b) := by
 unfold bits
 exact U_wrap _
theorem U_near (z : Int) : floatOfInt .f32 z < 4294967296 := by
 have h := FloatKind.f32.format.write_lt (.number (z < 0) z.natAbs 0)
 have e : 2 ^ FloatKind.f32.format.width = 4294967296 := by decide
 rw [e] at h
 exact h
theorem aluV_rg : AluRg aluV := by
 constructor
 ·intro op a ha
  show U (unaryV op a)
  unfold unaryV turnV
  repeat' split
  ·exact U_bits _ _ _
  ·exact U_bits _ _ _
  ·exact U_word (U_near _)
  ·exact U_wrap _
  ·exact U_wrap _
 ·intro op a b r ha hb h
  have h2 : binV op a b = some r := h
  unfold binV at h2
  have fl : ∀ o : Option Nat, (∀ r, o = some r → r < 4294967296) → U (floatV o) := fun o ho => by
   cases o with
   | none => exact ⟨by decide, by decide⟩
   | some r => exact U_word (ho r rfl)
  by_cases h39 : op = 39
  ·rw [if_pos h39] at h2; cases h2; exact U_mod _
  rw [if_neg h39] at h2
  by_cases h40 : op = 40
  ·rw [if_pos h40] at h2; cases h2; exact U_mod _
  rw [if_neg h40] at h2
  by_cases h41 : op = 41
  ·rw [if_pos h41] at h2; cases h2; exact U_mod _
  rw [if_neg h41] at h2
  by_cases h42 : op = 42
  ·rw [if_pos h42] at h2
   by_cases hz : wrap32 b = 0
   ·rw [if_pos hz] at h2; cases h2
   ·rw [if_neg hz] at h2; cases h2; exact U_mod _
  rw [if_neg h42] at h2
  by_cases h44 : op = 44
  ·rw [if_pos h44] at h2
   by_cases hz : wrap32 b = 0
   ·rw [if_pos hz] at h2; cases h2
   ·rw [if_neg hz] at h2; cases h2; exact U_mod _
  rw [if_neg h44] at h2
  by_cases h46 : op = 46
  ·rw [if_pos h46] at h2; cases h2; exact U_bits _ _ _
  rw [if_neg h46] at h2
  by_cases h47 : op = 47
  ·rw [if_pos h47] at h2; cases h2; exact U_bits _ _ _
  rw [if_neg h47] at h2
  by_cases h48 : op = 48
  ·rw [if_pos h48] at h2; cases h2; exact U_bits _ _ _
  rw [if_neg h48] at h2
  by_cases h50 : op = 50
  ·rw [if_pos h50] at h2; cases h2; exact U_mod _
  rw [if_neg h50] at h2
  by_cases h51 : op = 51
  ·rw [if_pos h51] at h2; cases h2; exact U_mod _
  rw [if_neg h51] at h2
  by_cases h54 : op = 54
  ·rw [if_pos h54] at h2; cases h2; exact fl _ fun r h => FloatKind.f32.format.add_lt h
  rw [if_neg h54] at h2
  by_cases h55 : op = 55
  ·rw [if_pos h55] at h2; cases h2; exact fl _ fun r h => FloatKind.f32.format.sub_lt h
  rw [if_neg h55] at h2
  by_cases h56 : op = 56
  ·rw [if_pos h56] at h2; cases h2; exact fl _ fun r h => FloatKind.f32.format.mul_lt h
  rw [if_neg h56] at h2
  by_cases h57 : op = 57
  ·rw [if_pos h57] at h2; cases h2; exact fl _ fun r h => FloatKind.f32.format.div_lt h
  rw [if_neg h57] at h2
  cases h2
  exact U0
end
end Go.Proofs.YtlabadkfkbenoaaGreatDoor
