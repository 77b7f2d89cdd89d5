/- Walks and plain laws, merged: SenH SenI. No condition. -/
import Derived.Test.YtlabadkfkbenoaaGreatDoorKn14
import Derived.Carry
namespace Go.Proofs.YtlabadkfkbenoaaGreatDoor
open Go.RowKit
set_option linter.unusedVariables false
set_option linter.unusedSimpArgs false
set_option maxRecDepth 100000
section
open Go.Shelf
/-- a checker in memory: its names lie in the world w0, what it writes lies behind that -/
structure ChR (w0 : World) (vs : List (ByteArray × (Int × Int))) (cs : List (ByteArray × Sig)) (ret : Int) (vb cb C : Nat) (ss : List Scope) (lp : Nat) (g cap : Nat) (ms : List Nat) (st cnt : Int) (w : World) : Prop where
 box : Bx w C #[.map (some vb), .map (some cb), .slice (some ⟨g, 0, none⟩) ss.length cap, .int .u8 ret, .int .i64 st, .int .i64 cnt, .int .i64 lp] 193
 row : w.ownsRow w0.heap.size 194 1 (.slice (some ⟨g, 0, none⟩) ss.length cap) ss.length (ms.map fun m => .map (some m))
 len : ms.length = ss.length
 maps : ∀ i (h1 : i < ms.length) (h2 : i < ss.length), Mp w ms[i] (scv ss[i])
 nd : ms.Nodup
 far : ∀ m ∈ ms, w0.heap.size ≤ m
 at_ : w0.heap.size ≤ C
 nm : NmR w0 vs cs vb cb
 below : Below w0.heap.size w0 w
theorem Bx.not_map {w : World} {q : Nat} {bs : Array Value} {t : TypeId} (h : Bx w q bs t) {b : Nat} {l : List (ByteArray × Value)} (hm : Mp w b l) : b ≠ q := fun e => by
 obtain ⟨es, c, hm, _⟩ := hm
 subst e
 unfold Bx at h
 rw [h] at hm
 cases hm
theorem row_not_map {w : World} {g base : Nat} {e : TypeId} {size : Nat} {n c : Nat} {xs : List Value} (h : w.ownsRow base e size (.slice (some ⟨g, 0, none⟩) n c) n xs) {b : Nat} {l : List (ByteArray × Value)} (hm : Mp w b l) : b ≠ g := fun e => by
 obtain ⟨es, c, hm, _⟩ := hm
 subst e
 rcases h.2 with ⟨h, _⟩ | ⟨g', cap', cur, hv, _, hg, _⟩
 ·cases h
 ·cases hv
  rw [hg] at hm
  cases hm
theorem row_not_box {w : World} {q : Nat} {bs : Array Value} {t e : TypeId} (h : Bx w q bs t) {g base size n c : Nat} {xs : List Value} (hown : w.ownsRow base e size (.slice (some ⟨g, 0, none⟩) n c) n xs) (hte : t ≠ e) : g ≠ q := fun e1 => h.not_row hown hte (by simp [Value.ownBlock, e1])
theorem ownsRow_succ' {w : World} {base : Nat} {e : TypeId} {size : Nat} {v : Value} {n : Nat} {xs : List Value} (h : w.ownsRow base e size v (n + 1) xs) : ∃ g cap, v = .slice (some ⟨g, 0, none⟩) (n + 1) cap := by
 rcases h.2 with ⟨_, h⟩ | ⟨g, cap, cur, rfl, _⟩
 ·omega
 ·exact ⟨g, cap, rfl⟩
section
variable {w0 : World} {vs : List (ByteArray × (Int × Int))} {cs : List (ByteArray × Sig)} {ret : Int} {vb cb C : Nat} {ss : List Scope} {lp : Nat} {g cap : Nat} {ms : List Nat} {st cnt : Int} {w w' : World}
theorem ChR.ck (h : ChR w0 vs cs ret vb cb C ss lp g cap ms st cnt w) (hl : ss.length ≤ 100000000) : CkR w vs cs C ss vb cb g cap ms where
 c0 := h.box.cell 0
 c1 := h.box.cell 1
 c2 := h.box.cell 2
 nm := h.nm.mono h.below
 sc := ⟨fun i hi => by rw [h.row.cellAt i (by have := h.len; omega)]; simp [hi], h.len, h.maps⟩
 le := hl
theorem ChR.on (h : ChR w0 vs cs ret vb cb C ss lp g cap ms st cnt w) (hb : Below w.heap.size w w') : ChR w0 vs cs ret vb cb C ss lp g cap ms st cnt w' :=
 ⟨h.box.on (grown_of_below hb) (by simp), ownsRow_at h.row hb, h.len, fun i h1 h2 => (h.maps i h1 h2).mono hb, h.nd, h.far, h.at_, h.nm, h.below.trans (hb.mono h.below.size)⟩
/-- the checker's own block alone turned -/
theorem ChR.turn (h : ChR w0 vs cs ret vb cb C ss lp g cap ms st cnt w) (hg : w.grownBy w' (some C)) {lp' : Nat} {st' cnt' : Int}
  (hbx : Bx w' C #[.map (some vb), .map (some cb), .slice (some ⟨g, 0, none⟩) ss.length cap, .int .u8 ret, .int .i64 st', .int .i64 cnt', .int .i64 lp'] 193) : ChR w0 vs cs ret vb cb C ss lp' g cap ms st' cnt' w' :=
 ⟨hbx, h.row.kept hg (.inr (by have := row_not_box h.box h.row (by decide); simp [Value.ownBlock, this])), h.len, fun i h1 h2 => (h.maps i h1 h2).on hg (by have := h.box.not_map (h.maps i h1 h2); simpa using this), h.nd, h.far, h.at_, h.nm, h.below.grown hg h.below.size (fun k e => by cases e; exact h.at_)⟩
/-- a new innermost scope -/
theorem ChR.push {w1 w2 w3 : World} {v' : Value} (h : ChR w0 vs cs ret vb cb C ss lp g cap ms st cnt w) (h1 : w1 = w.alloc (.map #[] 0))
  (hA : Appended w1 w2 w0.heap.size 194 1 (.slice (some ⟨g, 0, none⟩) ss.length cap) v' ss.length 1 (ms.map fun m => .map (some m)) [.map (some w.heap.size)]) (hg : w2.grownBy w3 (some C))
  (hbx : Bx w3 C #[.map (some vb), .map (some cb), v', .int .u8 ret, .int .i64 st, .int .i64 cnt, .int .i64 lp] 193) : ∃ g' cap', v' = .slice (some ⟨g', 0, none⟩) (ss.length + 1) cap' ∧ ChR w0 vs cs ret vb cb C (ss ++ [[]]) lp g' cap' (ms ++ [w.heap.size]) st cnt w3 := by
 obtain ⟨g', cap', rfl⟩ := ownsRow_succ' hA.own
 have b1 : Below w.heap.size w w1 := by rw [h1]; exact (Below.refl _ w).alloc (Nat.le_refl _) _
 have r1 := ownsRow_at h.row b1
 have x1 : Bx w1 C _ 193 := h.box.on (grown_of_below b1) (by simp)
 have x2 : Bx w2 C _ 193 := x1.on hA.grown (x1.not_row r1 (by decide))
 have m1 : Mp w1 w.heap.size (scv []) := by rw [h1]; exact Mp.new w
 have gr : ∀ {b l}, Mp w1 b l → Mp w3 b l := fun {b l} hm => by
  have hm2 : Mp w2 b l := hm.on hA.grown (by have := row_not_map r1 hm; simp [Value.ownBlock, this])
  exact hm2.on hg (by have := x2.not_map hm2; simpa using this)
 have r3 : w3.ownsRow w0.heap.size 194 1 (.slice (some ⟨g', 0, none⟩) (ss.length + 1) cap') (ss.length + 1) (ms.map (fun m => .map (some m)) ++ [.map (some w.heap.size)]) := hA.own.kept hg (.inr (by have := row_not_box x2 hA.own (by decide); simp [Value.ownBlock, this]))
 refine ⟨g', cap', rfl, by simpa using hbx, by simpa using r3, by simp [h.len], ?_, ?_, ?_, h.at_, h.nm, ?_⟩
 ·intro i h1' h2'
  by_cases hi : i < ss.length
  ·have e1 : (ms ++ [w.heap.size])[i] = ms[i]'(by have := h.len; omega) := List.getElem_append_left (by have := h.len; omega)
   have e2 : (ss ++ [[]])[i] = ss[i] := List.getElem_append_left hi
   rw [e1, e2]
   exact gr ((h.maps i (by have := h.len; omega) hi).mono b1)
  ·have hi2 : i = ss.length := by simp at h2'; omega
   have e1 : (ms ++ [w.heap.size])[i] = w.heap.size := by rw [List.getElem_append_right (by have := h.len; omega)]; simp
   have e2 : (ss ++ [[]])[i] = [] := by rw [List.getElem_append_right (by omega)]; simp
   rw [e1, e2]
   exact gr m1
 ·rw [List.nodup_append]
  refine ⟨h.nd, by simp, fun a ha b hb => ?_⟩
  obtain ⟨i, hi, rfl⟩ := List.getElem_of_mem ha
  have := (h.maps i hi (by have := h.len; omega)).lt
  simp at hb
  omega
 ·intro m hm
  rcases List.mem_append.1 hm with hm | hm
  ·exact h.far m hm
  ·simp at hm
   rw [hm]
   exact h.below.size
 ·have s1 : w0.heap.size ≤ w1.heap.size := Nat.le_trans h.below.size b1.size
  exact ((h.below.trans (b1.mono h.below.size)).trans (app_below hA r1 s1)).grown hg (Nat.le_trans s1 hA.grown.size) (fun k e => by cases e; exact h.at_)
/-- the innermost scope is left -/
theorem ChR.pop {c : Scope} (h : ChR w0 vs cs ret vb cb C (ss ++ [c]) lp g cap ms st cnt w) (hg : w.grownBy w' (some C))
  (hbx : Bx w' C #[.map (some vb), .map (some cb), .slice (some ⟨g, 0, none⟩) ss.length cap, .int .u8 ret, .int .i64 st, .int .i64 cnt, .int .i64 lp] 193) : ChR w0 vs cs ret vb cb C ss lp g cap ms.dropLast st cnt w' := by
 have h2 := h.turn hg (lp' := lp) (st' := st) (cnt' := cnt)
 have hl := h.len
 simp at hl
 have r2 : w'.ownsRow w0.heap.size 194 1 (.slice (some ⟨g, 0, none⟩) (ss ++ [c]).length cap) (ss ++ [c]).length (ms.map fun m => .map (some m)) := h.row.kept hg (.inr (by have := row_not_box h.box h.row (by decide); simp [Value.ownBlock, this]))
 have b2 : Below w0.heap.size w0 w' := h.below.grown hg h.below.size (fun k e => by cases e; exact h.at_)
 refine ⟨hbx, ?_, by simp [hl], ?_, h.nd.sublist (List.dropLast_sublist _), fun m hm => h.far m (List.dropLast_subset _ hm), h.at_, h.nm, b2⟩
 ·obtain ⟨r3, r4⟩ := r2
  rcases r4 with ⟨h, _⟩ | ⟨g', cap', cur, hv, r5, r6, r7, r8, r9, r10⟩
  ·cases h
  ·cases hv
   refine ⟨by simp [hl], .inr ⟨_, _, cur, rfl, r5, r6, by simp at r7; omega, r8, r9, ?_⟩⟩
   have := congrArg (List.take ss.length) r10
   rw [List.take_take] at this
   simp only [List.length_append, List.length_singleton] at this
   rw [show min ss.length ((ss.length + 1) * 1) = ss.length * 1 by omega] at this
   rw [this, List.dropLast_eq_take, hl, ← List.map_take]
   rfl
 ·intro i h1 h3
  have hi : i < ms.length := by simp at h1; omega
  have e1 : ms.dropLast[i] = ms[i] := by simp
  have e2 : (ss ++ [c])[i]'(by simp; omega) = ss[i] := List.getElem_append_left h3
  rw [e1, ← e2]
  exact (h.maps i hi (by simp; omega)).on hg (by have := h.box.not_map (h.maps i hi (by simp; omega)); simpa using this)
/-- the innermost scope is given a name -/
theorem ChR.give {c : Scope} {s : ByteArray} {t : Int} (h : ChR w0 vs cs ret vb cb C (ss ++ [c]) lp g cap ms st cnt w) (m : Nat) (hm : ms[ss.length]? = some m) (hg : w.grownBy w' (some m)) (hp : Mp w' m (putM s (.int .u8 t) (scv c))) :
  ChR w0 vs cs ret vb cb C (ss ++ [putM s t c]) lp g cap ms st cnt w' := by
 have hl := h.len
 simp at hl
 have hlt : ss.length < ms.length := by omega
 have hme : ms[ss.length] = m := by rw [List.getElem?_eq_getElem hlt] at hm; simpa using hm
 have hmm : m ∈ ms := by rw [← hme]; exact List.getElem_mem hlt
 have m0 : Mp w m (scv c) := by
  have := h.maps ss.length hlt (by simp)
  rw [hme] at this
  simpa using this
 refine ⟨by simpa using h.box.on hg (by have := h.box.not_map m0; simp [Ne.symm this]), by simpa using h.row.kept hg (.inr (by have := row_not_map h.row m0; simp [Value.ownBlock, Ne.symm this])), by simp [hl], ?_, h.nd, h.far, h.at_, h.nm, h.below.grown hg h.below.size (fun k e => by cases e; exact h.far _ hmm)⟩
 intro i h1 h2
 by_cases hi : i < ss.length
 ·have e2 : (ss ++ [putM s t c])[i] = ss[i] := List.getElem_append_left hi
  have e3 : (ss ++ [c])[i]'(by simp; omega) = ss[i] := List.getElem_append_left hi
  rw [e2, ← e3]
  refine (h.maps i h1 (by simp; omega)).on hg ?_
  intro e
  have e4 : ms[i] = ms[ss.length] := by rw [hme]; simpa using e
  exact List.pairwise_iff_getElem.1 h.nd i ss.length h1 hlt (by omega) e4
 ·have hi2 : i = ss.length := by omega
  subst hi2
  rw [hme]
  have e2 : (ss ++ [putM s t c])[ss.length] = putM s t c := by simp
  rw [e2, scv, ← putM_map (Value.int .u8)]
  exact hp
end
end
section
open Go.Shelf
def unitE {α : Type} : Except Int α → Except Int Unit
 | .error e => .error e
 | .ok _ => .ok ()
section
variable (vs : List (ByteArray × (Int × Int))) (cs : List (ByteArray × Sig)) (ret : Int)
/-- one statement: the innermost scope behind it, or its fault; rb re rw: what the lists in it come to -/
def stF (h : SH) (x : Exs) (rb re rw : Except Int Unit) (ss : List Scope) (c : Scope) (lp : Nat) : Except Int Scope :=
 match tyE vs cs (ss ++ [c]) x with
 | .error er => .error er
 | .ok ts =>
  if h.kind = 1 then
   if (seesS h.name (ss ++ [c])).isSome || hasN vs cs h.name then .error 290
   else if ts.getD 0 0 = h.type then .ok (putM h.name h.type c) else .error 292
  else if h.kind = 2 then
   match varT vs (ss ++ [c]) h.name with
   | .error er => .error er
   | .ok t => if ts.getD 0 0 = t then (match signT h.sign t with
    | .error er => .error er
    | .ok _ => .ok c) else .error 292
  else if h.kind = 3 then
   match arrT vs (ss ++ [c]) h.name with
   | .error er => .error er
   | .ok t => if ts.getD 0 0 = 1 ∧ ts.getD 1 0 = t then (match signT h.sign t with
    | .error er => .error er
    | .ok _ => .ok c) else .error 292
  else if h.kind = 4 then
   if ts.getD 0 0 = 1 then (match rb with
    | .error er => .error er
    | .ok _ => match re with
     | .error er => .error er
     | .ok _ => .ok c) else .error 292
  else if h.kind = 5 then
   if ts.getD 0 0 = 1 then (match rw with
    | .error er => .error er
    | .ok _ => .ok c) else .error 292
  else if h.kind = 6 ∨ h.kind = 7 then if 0 < lp then .ok c else .error 294
  else if h.kind = 8 then if ts.getD 0 0 = ret then .ok c else .error 292
  else .ok c
/-- statements of a list: the innermost scope behind them, or the first fault -/
def chS : Sts → List Scope → Scope → Nat → Except Int Scope
 | .nil, _, c, _ => .ok c
 | .cons h x b e r, ss, c, lp =>
  match stF vs cs ret h x (unitE (chS b (ss ++ [c]) [] lp)) (unitE (chS e (ss ++ [c]) [] lp)) (unitE (chS b (ss ++ [c]) [] (lp + 1))) ss c lp with
  | .error er => .error er
  | .ok c' => chS r ss c' lp
end
/-- are there expressions enough? -/
def arSH (k : Int) (n : Nat) : Bool := if k = 1 ∨ k = 2 ∨ k = 4 ∨ k = 5 ∨ k = 8 then decide (1 ≤ n) else if k = 3 then decide (2 ≤ n) else true
def arS : Sts → Bool
 | .nil => true
 | .cons h x b e r => arSH h.kind x.len && arE x && arS b && arS e && arS r
/-- boxes are kept, but checkers and rows of scopes -/
def Kp (w w' : World) : Prop := ∀ (q : Nat) (bs : Array Value) (t : TypeId), t ≠ 193 → t ≠ 194 → Bx w q bs t → Bx w' q bs t
structure Bk (B : Nat) (w w' : World) : Prop where
 below : Below B w w'
 kp : Kp w w'
theorem Bk.refl (B : Nat) (w : World) : Bk B w w := ⟨Below.refl _ _, fun _ _ _ _ _ h => h⟩
theorem Bk.size {B : Nat} {w w' : World} (h : Bk B w w') : w.heap.size ≤ w'.heap.size := h.below.size
theorem Bk.trans {B : Nat} {a b c : World} (h : Bk B a b) (k : Bk B b c) : Bk B a c := ⟨h.below.trans k.below, fun q bs t h1 h2 hq => k.kp q bs t h1 h2 (h.kp q bs t h1 h2 hq)⟩
theorem Bk.then {B : Nat} {a b c : World} (h : Bk B a b) (k : Below b.heap.size b c) (hs : B ≤ b.heap.size) : Bk B a c :=
 h.trans ⟨k.mono hs, fun q bs t _ _ hq => hq.on (grown_of_below k) (by simp)⟩
theorem Bx.ne_box {w : World} {q q2 : Nat} {a b : Array Value} {t u : TypeId} (h : Bx w q a t) (k : Bx w q2 b u) (hn : t ≠ u) : q ≠ q2 := fun e => by
 subst e
 unfold Bx at h k
 rw [h] at k
 simp at k
 exact hn k.2
theorem Bk.gr {B : Nat} {a b c : World} {r : Nat} (h : Bk B a b) (hg : b.grownBy c (some r)) (hs : B ≤ b.heap.size) (hr : B ≤ r) (hn : ∀ (q : Nat) (bs : Array Value) (t : TypeId), t ≠ 193 → t ≠ 194 → Bx b q bs t → q ≠ r) : Bk B a c :=
 h.trans ⟨(Below.refl B b).grown hg hs (fun k e => by cases e; exact hr), fun q bs t h1 h2 hq => hq.on hg (by have := hn q bs t h1 h2 hq; simpa using this)⟩
theorem Bk.app {B : Nat} {a b c : World} {size : Nat} {v v' : Value} {n m : Nat} {xs news : List Value} (h : Bk B a b) (hA : Appended b c B 194 size v v' n m xs news) (hown : b.ownsRow B 194 size v n xs) (hs : B ≤ b.heap.size) : Bk B a c :=
 h.trans ⟨app_below hA hown hs, fun q bs t _ h2 hq => hq.on hA.grown (hq.not_row hown h2)⟩
/-- what a walk of statements leaves -/
def Post (w0 : World) (vs : List (ByteArray × (Int × Int))) (cs : List (ByteArray × Sig)) (ret : Int) (vb cb C : Nat) (ss : List Scope) (lp : Nat) (w : World) (r : Except Int Unit) (e : Ending) (w' : World) : Prop :=
 Bk w0.heap.size w w' ∧ match r with
  | .error er => e = flt er ∧ ∃ st', w'.cell? ⟨C, 4, none⟩ = some (.int .i64 st')
  | .ok _ => e = .returned (.tuple #[]) ∧ ∃ g cap ms st cnt, ChR w0 vs cs ret vb cb C ss lp g cap ms st cnt w'
def CL (w0 : World) (vs : List (ByteArray × (Int × Int))) (cs : List (ByteArray × Sig)) (ret : Int) (vb cb C : Nat) (n : Nat) : Prop :=
 ∀ (l : Sts) (v : Value) (ss : List Scope) (lp g cap : Nat) (ms : List Nat) (st cnt : Int) (w : World), l.sz < n → ss.length + l.sz ≤ 99999999 → lp + l.sz ≤ 99999999 → arS l = true → SlS w0 false none l v → ChR w0 vs cs ret vb cb C ss lp g cap ms st cnt w →
  Calls Tryz.prog 111 #[.pointer (some ⟨C, 0, none⟩), v] w (Post w0 vs cs ret vb cb C ss lp w (unitE (chS vs cs ret l ss [] lp)))
def CS (w0 : World) (vs : List (ByteArray × (Int × Int))) (cs : List (ByteArray × Sig)) (ret : Int) (vb cb C : Nat) (n : Nat) : Prop :=
 ∀ (t : Int) (h : SH) (x : Exs) (b e : Sts) (vx ve vf : Value) (ss : List Scope) (c : Scope) (lp g cap : Nat) (ms : List Nat) (st cnt : Int) (w : World), b.sz < n → e.sz < n → ss.length + (x.sz + b.sz + e.sz) ≤ 99999998 → lp + (b.sz + e.sz) ≤ 99999998 →
  arSH h.kind x.len = true → arE x = true → arS b = true → arS e = true → SlE w0 false none x vx → SlS w0 false none b ve → SlS w0 false none e vf → ChR w0 vs cs ret vb cb C (ss ++ [c]) lp g cap ms st cnt w →
  Calls Tryz.prog 141 #[.pointer (some ⟨C, 0, none⟩), aggS t h vx ve vf] w fun x' w' => ∃ c', Post w0 vs cs ret vb cb C (ss ++ [c']) lp w (unitE (stF vs cs ret h x (unitE (chS vs cs ret b (ss ++ [c]) [] lp)) (unitE (chS vs cs ret e (ss ++ [c]) [] lp)) (unitE (chS vs cs ret b (ss ++ [c]) [] (lp + 1))) ss c lp)) x' w' ∧
   ∀ c2, stF vs cs ret h x (unitE (chS vs cs ret b (ss ++ [c]) [] lp)) (unitE (chS vs cs ret e (ss ++ [c]) [] lp)) (unitE (chS vs cs ret b (ss ++ [c]) [] (lp + 1))) ss c lp = .ok c2 → c' = c2
theorem grown_setCell (w : World) (a : Addr) (u : Value) : w.grownBy (w.setCell a u) (some a.block) := by
 have := (Below.refl 0 w).setCell (p := a) (Nat.zero_le _) u
 exact ⟨this.os, this.tape, this.output, this.size, fun k hk hn => Below.heap_setCell w a u k (fun e => hn (by rw [e]))⟩
set_option maxHeartbeats 8000000 in
theorem list111 (w0 : World) (vs : List (ByteArray × (Int × Int))) (cs : List (ByteArray × Sig)) (ret : Int) (vb cb C : Nat) (n : Nat) (HS : Hid (CS w0 vs cs ret vb cb C n)) : CL w0 vs cs ret vb cb C (n + 1) := by
 intro l v ss lp g cap ms st cnt w hn hs hlp har hv hck
 obtain ⟨ka, b, off, c, rfl, hka, hin⟩ := hv
 have hl := l.len_le
 have hS := hid (And.intro hn (And.intro hs hlp))
 have hI := hid hin
 have hkb : l.len ≤ 100000000 := by omega
 have hssl : ss.length ≤ 100000000 := by omega
 have AR := hid har
 have CK := hid hck
 obtain ⟨len, hlen⟩ : ∃ m, m = l.len := ⟨_, rfl⟩
 rw [← hlen] at hka hl hkb ⊢
 have hLen := hid hlen
 obtain ⟨w1, hw1⟩ : ∃ x : World, x = w.alloc (.map #[] 0) := ⟨_, rfl⟩
 have hmm : (Instr.makeMap 194 none).run Tryz.prog w = .ok (.map (some w.heap.size)) w1 := by rw [hw1]; exact run_makeMap 194 w
 have p2 := hck.box.cell 2
 simp at p2
 have hb1 : Below w.heap.size w w1 := by rw [hw1]; exact (Below.refl _ w).alloc (Nat.le_refl _) _
 have hr1 := hid (ownsRow_at hck.row hb1)
 have hsz0 : w0.heap.size ≤ w1.heap.size := Nat.le_trans hck.below.size hb1.size
 have hcw := hid (hck.on hb1)
 have HB1 := hid hb1
 have HW1 := hid hw1
 clear hn hs hin har hlen hck hlp hb1 hw1
 go_enter Tryz.func111, Tryz.ntmps111
 go_wp2_with (at_builtin; go_must (refine wpList_append_str rfl _ _ 191 rfl w0.heap.size 194 194 (.map none) 1 8 1 Tryz.underlying191 (by kernel_rfl) rfl (by decide) _ ss.length _ [_] (0, 0) hr1.out rfl (by simp [Value.oneCell']) (by unfold maxLen; omega) (by omega) hsz0 rfl rfl ?_); intro v' w' hA; obtain ⟨g', cap', rfl⟩ := ownsRow_succ' hA.own; have hx2 := hcw.out.box.on hA.grown (hcw.out.box.not_row hr1.out (by decide)); have q2 := hx2.cell 2; simp at q2; have f2 := hx2.free 2; have hX2 := hid hx2; have hA' := hid hA; clear hA hx2)
 have hpush := CK.out.push HW1.out hA'.out (grown_setCell _ ⟨C, 2, none⟩ _) (by simpa using hX2.out.set 2 (.slice (some ⟨g', 0, none⟩) (ss.length + 1) cap'))
 obtain ⟨g2, cap2, hv2, hck2⟩ := hpush
 cases hv2
 have hbb0 := hid (show Bk w0.heap.size w _ from ((((Bk.refl _ w).then HB1.out CK.out.below.size).app hA'.out hr1.out hsz0).gr (grown_setCell _ ⟨C, 2, none⟩ (.slice (some ⟨g', 0, none⟩) (ss.length + 1) cap')) (Nat.le_trans hsz0 hA'.out.grown.size) CK.out.at_ (fun q bs t h1 _ hq => hq.ne_box hX2.out h1)))
 have hck3 := hid hck2
 clear hck2 hA' hX2 hr1 hcw HW1 HB1 hmm p2 hsz0
 go_loopw [18] (fun i wr => ∃ (k : Nat) (r : Sts) (c : Scope) (g cap : Nat) (ms : List Nat) (st cnt : Int), k + r.len = len ∧ i = .int .i64 k ∧ StsIn w0 false none r b off k ∧ r.sz ≤ l.sz ∧ arS r = true ∧ chS vs cs ret l ss [] lp = chS vs cs ret r ss c lp ∧ ChR w0 vs cs ret vb cb C (ss ++ [c]) lp g cap ms st cnt wr ∧ Bk w0.heap.size w wr) (fun i _ => len - (intOf i).toNat)
 case atStart => exact ⟨0, l, [], _, _, _, _, _, by have := hLen.out; omega, rfl, hI.out, Nat.le_refl _, AR.out, rfl, hck3.out, hbb0.out⟩
 case round =>
  clear hI hck3 hbb0
  obtain ⟨k, r, c0, g1, cap1, ms1, st1, cnt1, hk, rfl, hr, hz, hra, hch, hc, hb⟩ := hrel
  have CK1 := hid hc
  have hB := hid hb
  have hCH := hid hch
  have hSz := hid hz
  have p2 := hc.box.cell 2
  simp at p2
  have f2 := hc.box.free 2
  cases r with
  | nil =>
   simp only [Sts.len, Nat.add_zero] at hk
   clear hr hz hra hch hc hb
   obtain rfl : len = k := hk.symm
   have hcp : ss.length + 1 ≤ cap1 ∧ cap1 ≤ 9223372036854775807 := by
    rcases CK1.out.row.2 with ⟨q, _⟩ | ⟨g3, cap3, cur3, hv3, _, _, q1, q2, _⟩
    ·cases q
    ·cases hv3
     simp at q1
     unfold maxLen at q2
     exact ⟨q1, by omega⟩
   obtain ⟨hcp1, hcp2⟩ := hcp
   have hcp3 : ss.length ≤ cap1 := by omega
   have hwr : IntKind.i64.wrap (ss.length : Int) = (ss.length : Int) := IntWalk.i64_in _ (by omega)
   have q3 : wr.drew.cell? ⟨C, 2, none⟩ = some (.slice (some ⟨g1, 0, none⟩) (ss.length + 1) cap1) := p2
   have f3 : wr.drew.frozen? ⟨C, 2, none⟩ = false := f2
   go_wp2_with fail
   go_region
   go_end0
   have hpop := CK1.out.pop (grown_setCell wr ⟨C, 2, none⟩ _) (by simpa using CK1.out.box.set 2 (.slice (some ⟨g1, 0, none⟩) ss.length cap1))
   refine ⟨((hB.out.gr (grown_setCell wr ⟨C, 2, none⟩ _) CK1.out.below.size CK1.out.at_ (fun q bs t h1 _ hq => hq.ne_box CK1.out.box h1))).then (Below.refl _ _).drew (hpop.below.size), ?_⟩
   rw [hCH.out]
   exact ⟨rfl, _, _, _, _, _, hpop.on (Below.refl _ _).drew⟩
  | cons h x body els rest =>
   simp only [Sts.len, Sts.sz] at hk hz
   obtain ⟨⟨⟨t, y0, _⟩, y1, y2, y3, y4⟩, ⟨vx, y5, hx⟩, ⟨vb, y6, hbd⟩, ⟨ve, y7, he⟩, hR⟩ := hr.cons
   have hw0 := hc.below
   have cw0 : ∀ {a : Addr} {u : Value}, w0.cell? a = some u → wr.cell? a = some u := fun {a u} h => (hw0.cell (World.block_lt_of_cell? w0 _ h)).trans h
   have x0 := cw0 y0
   have x1 := cw0 y1
   have x2 := cw0 y2
   have x3 := cw0 y3
   have x4 := cw0 y4
   have x5 := cw0 y5
   have x6 := cw0 y6
   have x7 := cw0 y7
   have hkk : k < len := by omega
   have hka2 : ka = some ⟨b, off, none⟩ := by rcases hka with q | q; (· omega); (· exact q.1)
   subst hka2
   obtain ⟨xa, xc, rfl⟩ := hx.shape'
   obtain ⟨ba, bc, rfl⟩ := hbd.shape'
   obtain ⟨ea, ec, rfl⟩ := he.shape'
   obtain ⟨a0, a1, a2, a3, a4⟩ := h
   simp only [] at x0 x1 x2 x3 x4
   have hRR := hid hR
   simp only [arS, Bool.and_eq_true] at hra
   obtain ⟨⟨⟨⟨r1, r2⟩, r3⟩, r4⟩, r5⟩ := hra
   have hRA := hid r5
   have hBW := hid ((Below.refl wr.heap.size wr).alloc (Nat.le_refl _) (.cells #[.int .i64 t, .int .u8 a1, .string a2, .int .u8 a3, .string a4, .slice xa x.len xc, .slice ba body.len bc, .slice ea els.len ec] 109))
   have cx := hid (HS.out t ⟨a0, a1, a2, a3, a4⟩ x body els (.slice xa x.len xc) (.slice ba body.len bc) (.slice ea els.len ec) ss c0 lp g1 cap1 ms1 st1 cnt1 (wr.alloc (.cells #[.int .i64 t, .int .u8 a1, .string a2, .int .u8 a3, .string a4, .slice xa x.len xc, .slice ba body.len bc, .slice ea els.len ec] 109)) (by have := hS.out; omega) (by have := hS.out; omega) (by have := hS.out; omega) (by have := hS.out; omega) r1 r2 r3 r4 hx hbd he (CK1.out.on hBW.out))
   clear hr hz hc hb hch hR hx hbd he hw0 cw0 y0 y1 y2 y3 y4 y5 y6 y7 r1 r2 r3 r4 r5 p2 f2
   simp only [chS] at hCH
   generalize stF vs cs ret ⟨a0, a1, a2, a3, a4⟩ x (unitE (chS vs cs ret body (ss ++ [c0]) [] lp)) (unitE (chS vs cs ret els (ss ++ [c0]) [] lp)) (unitE (chS vs cs ret body (ss ++ [c0]) [] (lp + 1))) ss c0 lp = SR at hCH cx
   cases SR with
   | error er =>
    go_wp2_with fail
    refine cx.out.mono ?_
    rintro e w2 ⟨c', ⟨hb2, he, st2, hst⟩, -⟩
    obtain rfl : e = flt er := he
    have hB2 := hid hb2
    have hST := hid hst
    clear hb2 cx hst
    go_wp2_with fail
    refine bp_panic ⟨?_, ?_⟩
    ·exact (hB.out.then hBW.out CK1.out.below.size).trans hB2.out
    ·rw [hCH.out]
     exact ⟨rfl, _, hST.out⟩
   | ok c2 =>
    go_wp2_with fail
    refine cx.out.mono ?_
    rintro e w2 ⟨c', ⟨hb2, he, g2, cap2, ms2, st2, cnt2, hck2⟩, hc2⟩
    obtain rfl : e = .returned (.tuple #[]) := he
    obtain rfl : c' = c2 := hc2 _ rfl
    have hB2 := hid hb2
    have CK2 := hid hck2
    clear hb2 cx hck2 hc2
    go_wp2_with fail
    exact ⟨⟨k + 1, rest, c', g2, cap2, ms2, st2, cnt2, by omega, by go_num, hRR.out, by have := hSz.out; simp only [Sts.sz] at this; omega, hRA.out, by rw [hCH.out], CK2.out, (hB.out.then hBW.out CK1.out.below.size).trans hB2.out⟩, by simp only [intOf]; omega⟩
end
end Go.Proofs.YtlabadkfkbenoaaGreatDoor
