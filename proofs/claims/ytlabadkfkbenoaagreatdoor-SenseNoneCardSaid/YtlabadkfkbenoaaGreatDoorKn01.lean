/- Walks and plain laws, merged: Kit Tk KitG KitH. No condition. -/
import Derived.WalkKit
import Derived.WalkSpells
import Derived.WalkLawsBesides
import Derived.Deep.QuietTactic
import Derived.BigQuiet
import Derived.Deep.RegionHeld3
import Derived.Deep.RegionLaw
import Derived.Deep.RegionWith
import Derived.Laws.CopyOwn
namespace Go.Proofs.YtlabadkfkbenoaaGreatDoor
open Go.RowKit
set_option linter.unusedVariables false
set_option linter.unusedSimpArgs false
set_option maxRecDepth 100000
section
theorem hid {p : Prop} (h : p) : Hid p := h
/-- A slice of integers of kind k at the address ao reads as l (its first l.length cells). -/
structure Ints (k : IntKind) (w : World) (ao : Option Addr) (l : List Int) : Prop where
 wf : ∀ x ∈ l, (Lit.int k x).wf = true
 cell : l.length ≤ 0 ∨ ∃ b off, ao = some ⟨b, off, none⟩ ∧ ∀ i, i < l.length → w.cell? ⟨b, off + i, none⟩ = some (.int k (l.getD i 0))
theorem Ints.at {k : IntKind} {w : World} {ao : Option Addr} {l : List Int} (h : Ints k w ao l) :
  ∃ b off, (l.length ≤ 0 ∨ ao = some ⟨b, off, none⟩) ∧ Hid (∀ i, i < l.length → w.cell? ⟨b, off + i, none⟩ = some (.int k (l.getD i 0))) := by
 rcases h.cell with h0 | ⟨b, off, rfl, hc⟩
 ·exact ⟨0, 0, .inl h0, fun i hi => by omega⟩
 ·exact ⟨b, off, .inr rfl, hc⟩
theorem Ints.nil (k : IntKind) (w : World) (ao : Option Addr) : Ints k w ao [] := ⟨by simp, .inl (by simp)⟩
theorem Ints.mono {k : IntKind} {w w' : World} {ao : Option Addr} {l : List Int} (h : Ints k w ao l) (hb : Below w.heap.size w w') : Ints k w' ao l := by
 refine ⟨h.wf, ?_⟩
 rcases h.cell with h0 | ⟨b, off, rfl, hc⟩
 ·exact .inl h0
 ·exact .inr ⟨b, off, rfl, fun i hi => (hb.cell (World.block_lt_of_cell? w _ (hc i hi))).trans (hc i hi)⟩
theorem Ints.take {k : IntKind} {w : World} {ao : Option Addr} {l : List Int} (h : Ints k w ao l) (n : Nat) : Ints k w ao (l.take n) := by
 refine ⟨fun x hx => h.wf x (List.mem_of_mem_take hx), ?_⟩
 rcases h.cell with h0 | ⟨b, off, rfl, hc⟩
 ·exact .inl (by rw [List.length_take]; omega)
 ·refine .inr ⟨b, off, rfl, fun i hi => ?_⟩
  rw [List.length_take] at hi
  rw [hc i (by omega)]
  simp [List.getD, List.getElem?_take, show i < n by omega]
theorem Ints.news {k : IntKind} {w : World} {ad : Addr} {l : List Int} (h : Ints k w (some ad) l) : ∀ j u, (l.map (Value.int k))[j]? = some u → w.cell? (ad.add j) = some u := by
 intro j u hj
 have hlt : j < l.length := by
  have := (List.getElem?_eq_some_iff.1 hj).1
  simpa using this
 rcases h.cell with h0 | ⟨b, off, h1, h2⟩
 ·omega
 ·cases h1
  have hadd : (⟨b, off, none⟩ : Addr).add j = ⟨b, off + j, none⟩ := by
   unfold Addr.add; split <;> simp_all
  rw [hadd, h2 j hlt, ← hj]
  simp [List.getD, hlt]
theorem own_mono {w w' : World} {base B : Nat} {e : TypeId} {size : Nat} {v : Value} {n : Nat} {xs : List Value} (h : w.ownsRow base e size v n xs) (hb : Below B w w') (hB : w.heap.size ≤ B) : w'.ownsRow base e size v n xs := by
 obtain ⟨h1, h2⟩ := h
 refine ⟨h1, ?_⟩
 rcases h2 with h2 | ⟨g, cap, cur, hv, hg, hh, r⟩
 ·exact .inl h2
 ·exact .inr ⟨g, cap, cur, hv, hg, by rw [hb.block g (Nat.lt_of_lt_of_le (Array.getElem?_eq_some_iff.1 hh).1 hB)]; exact hh, r⟩
theorem own_base {w : World} {base base' : Nat} {e : TypeId} {size : Nat} {v : Value} {n : Nat} {xs : List Value} (h : w.ownsRow base e size v n xs) (hb : base' ≤ base) : w.ownsRow base' e size v n xs := by
 obtain ⟨h1, h2⟩ := h
 refine ⟨h1, ?_⟩
 rcases h2 with h2 | ⟨g, cap, cur, hv, hg, r⟩
 ·exact .inl h2
 ·exact .inr ⟨g, cap, cur, hv, by omega, r⟩
theorem range_snoc {α : Type} (f : Nat → α) (j : Nat) : (List.range (j + 1)).map f = (List.range j).map f ++ [f j] := by simp [List.range_succ]
theorem set_at {α : Type} (f : Nat → α) (xs : List α) (k : Nat) (h : k < xs.length) : ((List.range k).map f ++ xs.drop k).set k (f k) = (List.range (k + 1)).map f ++ xs.drop (k + 1) := by
 rw [List.set_append_right _ _ (by simp), List.drop_eq_getElem_cons h, range_snoc]
 simp only [List.length_map, List.length_range, Nat.sub_self, List.set_cons_zero, List.append_assoc, List.cons_append, List.nil_append]
theorem grown_refl (w : World) (row : Option Nat) : w.grownBy w row := ⟨rfl, rfl, rfl, Nat.le_refl _, fun _ _ _ => rfl⟩
theorem grown_trans {a b c : World} {row : Option Nat} (h : a.grownBy b row) (k : b.grownBy c row) : a.grownBy c row :=
 ⟨k.os.trans h.os, k.tape.trans h.tape, k.output.trans h.output, Nat.le_trans h.size k.size, fun i hi hn => (k.block i (Nat.lt_of_lt_of_le hi h.size) hn).trans (h.block i hi hn)⟩
theorem ret_int {k : IntKind} {a b : Int} (h : a = b) : Ending.returned (.int k a) = .returned (.int k b) := by rw [h]
theorem ret_bool {a b : Bool} (h : a = b) : Ending.returned (.bool a) = .returned (.bool b) := by rw [h]
end
section
theorem tk {P : Program} {ops : Array Oper} {Q : Exit → Act → World → Prop} {md : Region.Mode} {S : World → Prop} {oi : Oper} {fuel : Nat} {listed : Array Bool} {a : Act} {w : World} (i : Nat) (v : Value)
  (hi : ops[i]? = some oi := by simp only [List.getElem?_toArray, List.getElem?_cons_succ, List.getElem?_cons_zero]; rfl)
  (hs : Region.noSelect ops = true := by kernel_rfl) (hf : Region.free md ops listed i = true := by kernel_rfl) (hr : (Region.ready md ops listed).contains i = true := by kernel_rfl)
  (hQ : ∀ c a w, Q (.panic c) (a.put oi.dst v) w → Q (.panic c) a w := by intro _ _ _ h; exact h) (hw : Region.wanted oi (yielded ops a.tmps) = true := by rfl)
  (hy : ∀ w, S w → (execOp a.eval oi).run P w = .ok (.value v) w) (hS : S w := by assumption)
  (h : wpAnyH P md ops Q S fuel (listed.setIfInBounds i true) (a.put oi.dst v) w) : wpAnyH P md ops Q S (fuel + 1) listed a w :=
 wpAnyH_take hi hs hf hr hQ (.inl ⟨hw, hy⟩) hS h
theorem tn {P : Program} {ops : Array Oper} {Q : Exit → Act → World → Prop} {md : Region.Mode} {S : World → Prop} {oi : Oper} {fuel : Nat} {listed : Array Bool} {a : Act} {w : World} (i : Nat)
  (hi : ops[i]? = some oi := by simp only [List.getElem?_toArray, List.getElem?_cons_succ, List.getElem?_cons_zero]; rfl)
  (hs : Region.noSelect ops = true := by kernel_rfl) (hf : Region.free md ops listed i = true := by kernel_rfl) (hr : (Region.ready md ops listed).contains i = true := by kernel_rfl)
  (hQ : ∀ c a w, Q (.panic c) (a.put oi.dst undef) w → Q (.panic c) a w := by intro _ _ _ h; exact h) (hw : Region.wanted oi (yielded ops a.tmps) = false := by rfl)
  (hS : S w := by assumption) (h : wpAnyH P md ops Q S fuel (listed.setIfInBounds i true) (a.put oi.dst undef) w) : wpAnyH P md ops Q S (fuel + 1) listed a w :=
 wpAnyH_take hi hs hf hr hQ (.inr ⟨hw, rfl⟩) hS h
theorem tr {P : Program} {ops : Array Oper} {Q : Exit → Act → World → Prop} {md : Region.Mode} {S : World → Prop} {fuel : Nat} {listed : Array Bool} {a : Act} {w : World} (i : Nat) {o : Oper}
  (hr : Region.ready md ops listed = [i] := by kernel_rfl) (ho : ops[i]? = some o := by simp only [List.getElem?_toArray, List.getElem?_cons_succ, List.getElem?_cons_zero]; rfl)
  (h : ∀ K' : Act → World → Prop, Shut (∀ a w, S w → (S w → wpAnyH P md ops Q S fuel (listed.setIfInBounds i true) a w) → K' a w) → if Region.wanted o (yielded ops a.tmps) = true then Oper.wp P o a w K' Q else K' (a.put o.dst undef) w) :
  wpAnyH P md ops Q S (fuel + 1) listed a w :=
 wpAnyH_ready hr (by simp) (AllReadyH.cons ho h AllReadyH.nil)
theorem tpa (a : Act) (d : Tmp) (v : Value) : a.put (some d) v = { a with tmps := a.tmps.setIfInBounds d v } := rfl
theorem tpb (a : Act) (v : Value) : a.put none v = a := rfl
theorem tpc {α : Type} (l : List α) (i : Nat) (a : α) : l.toArray.setIfInBounds i a = (l.set i a).toArray := by simp
theorem tpd {α : Type} (l : List α) (x a : α) : (x :: l).set 0 a = a :: l := rfl
theorem tpe {α : Type} (l : List α) (x a : α) (i : Nat) : (x :: l).set (i + 1) a = x :: l.set i a := rfl
end
section
structure Appended (w w' : World) (base : Nat) (e : TypeId) (size : Nat) (v v' : Value) (n m : Nat) (xs news : List Value) : Prop where
 own : w'.ownsRow base e size v' (n + m) (xs ++ news)
 old : w'.ownsRow base e size v n xs
 grown : w.grownBy w' v.ownBlock
 place : v'.ownBlock = v.ownBlock ∨ ∃ g, v'.ownBlock = some g ∧ w.heap.size ≤ g ∧ g < w'.heap.size
 nil : v' = .slice none 0 0 ↔ v = .slice none 0 0 ∧ m = 0
theorem own_take_size {w : World} {base : Nat} {e : TypeId} {g n m cap size : Nat} {xs : List Value} (h : w.ownsRow base e size (.slice (some ⟨g, 0, none⟩) n cap) n xs) (hm : m ≤ n) :
  w.ownsRow base e size (.slice (some ⟨g, 0, none⟩) m cap) m (xs.take (m * size)) := by
 obtain ⟨h1, h2⟩ := h
 have hms : m * size ≤ n * size := Nat.mul_le_mul_right _ hm
 refine ⟨by rw [List.length_take, h1]; omega, ?_⟩
 rcases h2 with ⟨hv, _⟩ | ⟨g', cap', cur, hv, hg, hh, a, b, c, d⟩
 ·simp at hv
 ·simp only [Value.slice.injEq, Option.some.injEq, Addr.mk.injEq, and_true, true_and] at hv
  obtain ⟨rfl, rfl⟩ := hv
  refine .inr ⟨g, cap, cur, rfl, hg, hh, by omega, b, c, ?_⟩
  rw [← d, List.take_take, Nat.min_eq_left hms]
theorem append_strong {P : Program} (w : World) (base : Nat) (t ty e : TypeId) (i : TypeInfo) (z : Value) (ht : P.underlying t = some (.slice e)) (hi : P.info? e = some i) (hz : i.zero = some z)
  (hzs : z.cells.size = i.size) (hsz : 0 < i.size) (v : Value) (n : Nat) (xs : List Value) (hown : w.ownsRow base e i.size v n xs)
  (a : Addr) (m c : Nat) (news : List Value) (hl : news.length = m * i.size) (hnews : ∀ j u, news[j]? = some u → w.cell? (a.add j) = some u) (h1 : ∀ u ∈ news, u.oneCell' = true)
  (h63 : n + m ≤ maxLen) (hbytes : (n + m) * i.bytes ≤ 140737488355328) (hbase : base ≤ w.heap.size) :
  ∃ v' w', (Builtin.append_ #[t, t] ty #[v, .slice (some a) m c]).run P w = .ok v' w' ∧ Appended w w' base e i.size v v' n m xs news := by
 have hsmall : n + m ≤ 9223372036854775807 := by simp only [maxLen] at h63; omega
 have hxl := hown.1
 have hlen : (xs ++ news).length = (n + m) * i.size := by rw [List.length_append, hxl, hl, Nat.add_mul]
 have fresh : ∀ old : Nat, ∀ (row : Option Nat),
   let cap := grownCap w (n + m) old e
   let w' := w.drew.alloc (.cells (xs.toArray ++ news.toArray ++ Builtin.zeroCells z.cells (cap - (n + m))) e)
   w'.ownsRow base e i.size (.slice (some ⟨w.heap.size, 0, none⟩) (n + m) cap) (n + m) (xs ++ news) ∧ w.grownBy w' row := by
  intro old row cap w'
  have hge : n + m ≤ cap := grownCap_ge w (n + m) old e
  have hcm : cap ≤ maxLen := grownCap_le_maxLen w (n + m) old e h63
  refine ⟨⟨hlen, .inr ⟨w.heap.size, _, _, rfl, hbase, heap_alloc_new w.drew _, hge, hcm, ?_, ?_⟩⟩, ⟨rfl, rfl, rfl, by simp [w'], fun k hk _ => heap_alloc_old w.drew _ hk⟩⟩
  ·simp only [Array.size_append, List.size_toArray, size_zeroCells, hzs, hxl, hl, ← Nat.add_mul]
   congr 1
   omega
  ·simp only [Array.toList_append, List.append_assoc]
   rw [← List.append_assoc, ← hlen]
   exact List.take_left
 rcases hown.2 with ⟨rfl, rfl⟩ | ⟨g, cap, cur, rfl, hbg, hg, hnc, hcm, hcs, htk⟩
 ·have hx : xs = [] := List.eq_nil_of_length_eq_zero (by simpa using hxl)
  subst hx
  by_cases hm : m = 0
  ·subst hm
   have hn : news = [] := List.eq_nil_of_length_eq_zero (by simpa using hl)
   subst hn
   refine ⟨.slice none 0 0, w, ?_, ⟨World.ownsRow_nil w base e i.size, World.ownsRow_nil w base e i.size, grown_refl _ _, .inl rfl, by simp⟩⟩
   simp [Builtin.append_, run_underlying ht, sizeOf, typeInfo, hi, Builtin.lenOf, Builtin.firstCells, loadCells, loadCellsFrom]
  ·have hb2 : m * i.bytes ≤ 140737488355328 := by simpa using hbytes
   have hr := run_append_nil (P := P) w t ty e i z ht hi hz a m c news hl hnews (by omega) (by omega) (by omega)
   have hf := fresh 0 (Value.ownBlock (.slice none 0 0))
   simp only [Nat.zero_add, List.nil_append, Array.empty_append] at hf ⊢
   refine ⟨_, _, hr, ⟨by simpa using hf.1, World.ownsRow_nil _ _ _ _, hf.2, .inr ⟨w.heap.size, rfl, Nat.le_refl _, by simp⟩, by simp [hm]⟩⟩
 ·by_cases hroom : n + m ≤ cap
  ·have hfit : n * i.size + news.length ≤ cur.size := by rw [hl, hcs, ← Nat.add_mul]; exact Nat.mul_le_mul_right _ hroom
   have hr := run_append_room (P := P) w t ty e i ht hi g n cap cur hg a m c news hl hnews h1 hroom hfit
   have hown' : (w.setRow g (cur.toList.take (n * i.size) ++ news ++ cur.toList.drop (n * i.size + news.length)).toArray).ownsRow base e i.size (.slice (some ⟨g, 0, none⟩) (n + m) cap) (n + m) (xs ++ news) := by
    refine ⟨hlen, .inr ⟨g, cap, _, rfl, hbg, setRow_heap w g cur _ e _ hg, hroom, hcm, ?_, ?_⟩⟩
    ·simp only [List.size_toArray, List.length_append, List.length_take, List.length_drop, Array.length_toList]
     omega
    ·rw [htk, ← hlen]
     exact List.take_left
   refine ⟨_, _, hr, ⟨hown', ?_, ⟨rfl, rfl, rfl, by simp, fun k _ hk => setRow_other w g k _ (fun e => hk (by simp [Value.ownBlock, e]))⟩, .inl rfl, by simp⟩⟩
   have h2 := own_take_size hown' (show n ≤ n + m by omega)
   have h3 : (xs ++ news).take (n * i.size) = xs := by rw [← hxl]; exact List.take_left
   rw [h3] at h2
   exact h2
  ·have holds : ∀ j u, xs[j]? = some u → w.cell? ((⟨g, 0, none⟩ : Addr).add j) = some u := hown.cells (g := g) rfl
   have hr := run_append_grow (P := P) w t ty e i z ht hi hz ⟨g, 0, none⟩ n cap xs hxl holds a m c news hl hnews (by omega) (by omega) (growslice_fits (by omega) hbytes)
   have hf := fresh cap (Value.ownBlock (.slice (some ⟨g, 0, none⟩) n cap))
   have hf2 := (fresh cap none).2
   refine ⟨_, _, hr, ⟨hf.1, ?_, hf.2, .inr ⟨w.heap.size, rfl, Nat.le_refl _, by simp⟩, by simp⟩⟩
   exact hown.kept hf2 (.inr (by simp [Value.ownBlock]))
/-- Append of what 'buildSlice' has just laid; exactly. -/
theorem wpList_append_str {P : Program} {w : World} {ops : Array Oper} {rest : List Oper} {o : Oper} {a : Act} {Q : Exit → Act → World → Prop} (hgd : o.guard = none) (s x : Operand) (t : TypeId)
  (ho : o.op = .call { callee := .builtin .append, args := #[s, x], argTypes := #[t, t] })
  (base : Nat) (e e' : TypeId) (z : Value) (size bytes m : Nat) (ht : P.underlying t = some (.slice e)) (hinfo : (P.info? e).map (fun i => (i.zero, i.size, i.bytes)) = some (some z, size, bytes))
  (hzs : z.cells.size = size) (hsz : 0 < size)
  (v : Value) (n : Nat) (xs news : List Value) (fr : Nat × Nat) (hown : w.ownsRow base e size v n xs) (hl : news.length = m * size) (h1 : ∀ u ∈ news, u.oneCell' = true)
  (h63 : n + m ≤ maxLen) (hbytes : (n + m) * bytes ≤ 140737488355328) (hbase : base ≤ w.heap.size)
  (hs : a.eval s = v) (hx : a.eval x = .slice (some ⟨w.heap.size, 0, none⟩) m m)
  (h : ∀ v' w', Appended w w' base e size v v' n m xs news → wpList P ops Q rest (a.put o.dst v') w') :
  wpList P ops Q (o :: rest) a (w.alloc (.cells news.toArray e' fr)) := by
 obtain ⟨i, hi, hz0, hz1, hz2⟩ := info_parts hinfo
 subst hz1
 subst hz2
 refine wpList_plain hgd fun K hK => ?_
 obtain ⟨v', w', hr, hA⟩ := append_strong (P := P) (w.alloc (.cells news.toArray e' fr)) base t o.type e i z ht hi hz0 hzs hsz v n xs (hown.alloc _) ⟨w.heap.size, 0, none⟩ m m news hl (by
  intro j u hj
  have hadd : (⟨w.heap.size, 0, none⟩ : Addr).add j = ⟨w.heap.size, j, none⟩ := by unfold Addr.add; split <;> simp_all
  rw [hadd, World.cell?_alloc_mark]; simpa using hj) h1 h63 hbytes (by simp; omega)
 unfold Oper.wp execOp
 simp only [ho, resolve, invoke, builtin, Sem.run_bind, Sem.run_pure, Result.andThen_ok, List.map_toArray, List.map_cons, List.map_nil, hs, hx, hr]
 refine hK _ _ (h v' w' ⟨hA.own, hA.old, grown_trans (World.grownBy_alloc w _ _) hA.grown, ?_, hA.nil⟩)
 rcases hA.place with h | ⟨g, h1, h2, h3⟩
 ·exact .inl h
 ·exact .inr ⟨g, h1, by simp at h2; omega, h3⟩
/-- another row stays -/
theorem Appended.other {w w' : World} {base base' : Nat} {e e' : TypeId} {size size' : Nat} {v v' u : Value} {n m k : Nat} {xs news ys : List Value} (hA : Appended w w' base e size v v' n m xs news)
  (h : w.ownsRow base' e' size' u k ys) (hne : u.ownBlock = none ∨ u.ownBlock ≠ v.ownBlock) : w'.ownsRow base' e' size' u k ys ∧ (u.ownBlock = none ∨ u.ownBlock ≠ v'.ownBlock) := by
 refine ⟨h.kept hA.grown hne, ?_⟩
 rcases hne with h0 | h0
 ·exact .inl h0
 ·rcases hA.place with hp | ⟨g, hp, hg, _⟩
  ·exact .inr (by rw [hp]; exact h0)
  ·cases hu : u.ownBlock with
   | none => exact .inl rfl
   | some q =>
    right
    rw [hp]
    intro hq
    simp only [Option.some.injEq] at hq
    have := (h.lt q hu).2
    omega
theorem Appended.below {w w' : World} {base : Nat} {e : TypeId} {size : Nat} {v v' : Value} {n m : Nat} {xs news : List Value} (hA : Appended w w' base e size v v' n m xs news) (h : w.ownsRow base e size v n xs) (hB : base ≤ w.heap.size) : Below base w w' :=
 (Below.refl base w).grown hA.grown hB (fun k hk => (h.lt k hk).1)
/-! Rows that lie apart from one another. -/
structure RowS where
 v : Value
 e : TypeId
 size : Nat
 n : Nat
 xs : List Value
def RowS.apart (a b : RowS) : Prop := a.v.ownBlock = none ∨ a.v.ownBlock ≠ b.v.ownBlock
theorem RowS.apart_symm {a b : RowS} (h : a.apart b) : b.apart a := by
 rcases h with h | h
 ·cases hb : b.v.ownBlock with
  | none => exact .inl hb
  | some q => exact .inr (by rw [hb, h]; simp)
 ·exact .inr (fun e => h e.symm)
/-- Each row is owned; no two share a block. -/
structure Sep (w : World) (B : Nat) (L : List RowS) : Prop where
 own : ∀ i (h : i < L.length), w.ownsRow B L[i].e L[i].size L[i].v L[i].n L[i].xs
 apart : ∀ i j (hi : i < L.length) (hj : j < L.length), i ≠ j → L[i].apart L[j]
theorem Sep.nil (w : World) (B : Nat) : Sep w B [] := ⟨fun i h => by simp at h, fun i j h => by simp at h⟩
/-- one row is turned, and the world with it -/
theorem Sep.turn {w w' : World} {B : Nat} {L : List RowS} (h : Sep w B L) (k : Nat) (hk : k < L.length) (r : RowS) (hg : w.grownBy w' L[k].v.ownBlock) (hr : w'.ownsRow B r.e r.size r.v r.n r.xs)
  (hp : r.v.ownBlock = L[k].v.ownBlock ∨ ∃ g, r.v.ownBlock = some g ∧ w.heap.size ≤ g) : Sep w' B (L.set k r) := by
 refine ⟨fun i hi => ?_, fun i j hi hj hij => ?_⟩
 ·rw [List.length_set] at hi
  by_cases hik : k = i
  ·subst hik; simpa using hr
  ·rw [List.getElem_set_ne hik]
   exact (h.own i hi).kept hg (h.apart i k hi hk (fun e => hik e.symm))
 ·rw [List.length_set] at hi hj
  have key : ∀ i (hi : i < L.length), i ≠ k → L[i].apart r := by
   intro i hi hik
   rcases hp with hp | ⟨g, hp, hg2⟩
   ·rcases h.apart i k hi hk hik with h1 | h1
    ·exact .inl h1
    ·exact .inr (by rw [hp]; exact h1)
   ·cases hb : L[i].v.ownBlock with
    | none => exact .inl hb
    | some q =>
     refine .inr ?_
     rw [hb, hp]
     intro e
     simp only [Option.some.injEq] at e
     have := ((h.own i hi).lt q hb).2
     omega
  by_cases hik : k = i
  ·subst hik
   rw [List.getElem_set_self, List.getElem_set_ne hij]
   exact RowS.apart_symm (key j hj (fun e => hij e.symm))
  ·by_cases hjk : k = j
   ·subst hjk
    rw [List.getElem_set_self, List.getElem_set_ne hik]
    exact key i hi (fun e => hik e.symm)
   ·rw [List.getElem_set_ne hik, List.getElem_set_ne hjk]
    exact h.apart i j hi hj hij
/-- only new blocks, or other rows' -/
theorem Sep.kept {w w' : World} {B : Nat} {L : List RowS} (h : Sep w B L) {row : Option Nat} (hg : w.grownBy w' row) (hn : ∀ i (hi : i < L.length), L[i].v.ownBlock = none ∨ L[i].v.ownBlock ≠ row) : Sep w' B L :=
 ⟨fun i hi => (h.own i hi).kept hg (hn i hi), h.apart⟩
theorem Sep.alloc {w : World} {B : Nat} {L : List RowS} (h : Sep w B L) (o : Obj) : Sep (w.alloc o) B L :=
 h.kept (World.grownBy_alloc w o none) (fun i hi => by cases hq : L[i].v.ownBlock <;> simp)
theorem Sep.drew {w : World} {B : Nat} {L : List RowS} (h : Sep w B L) : Sep w.drew B L := ⟨fun i hi => (h.own i hi).drew, h.apart⟩
theorem Sep.below {w w' : World} {B C : Nat} {L : List RowS} (h : Sep w B L) (hb : Below C w w') (hC : w.heap.size ≤ C) : Sep w' B L := ⟨fun i hi => own_mono (h.own i hi) hb hC, h.apart⟩
theorem Sep.base {w : World} {B B' : Nat} {L : List RowS} (h : Sep w B L) (hB : B' ≤ B) : Sep w B' L := ⟨fun i hi => own_base (h.own i hi) hB, h.apart⟩
/-- one row more, that lies apart -/
theorem Sep.push {w : World} {B : Nat} {L : List RowS} (h : Sep w B L) (r : RowS) (hr : w.ownsRow B r.e r.size r.v r.n r.xs) (ha : ∀ i (hi : i < L.length), L[i].apart r) : Sep w B (L ++ [r]) := by
 refine ⟨fun i hi => ?_, fun i j hi hj hij => ?_⟩
 ·by_cases h1 : i < L.length
  ·rw [List.getElem_append_left h1]; exact h.own i h1
  ·rw [List.getElem_append_right (by omega)]; simpa using hr
 ·simp only [List.length_append, List.length_singleton] at hi hj
  by_cases h1 : i < L.length <;> by_cases h2 : j < L.length
  ·rw [List.getElem_append_left h1, List.getElem_append_left h2]; exact h.apart i j h1 h2 hij
  ·rw [List.getElem_append_left h1, List.getElem_append_right (by omega)]; simpa using ha i h1
  ·rw [List.getElem_append_left h2, List.getElem_append_right (by omega)]; simpa using RowS.apart_symm (ha j h2)
  ·omega
end
section
/-! What the Apart functions do to lists that were handed out (elements of one cell). -/
def RowS.head (r : RowS) : Value × TypeId × Nat × Nat := (r.v, r.e, r.size, r.n)
/-- phase 1: the lists are written over -/
structure Ap (w : World) (B lb lo : Nat) (L0 L : List RowS) : Prop where
 sep : Sep w B L
 shape : L.map RowS.head = L0.map RowS.head
 cells : ∀ k (h : k < L0.length), w.cell? ⟨lb, lo + k, none⟩ = some L0[k].v
 far : ∀ k (h : k < L0.length), L0[k].v.ownBlock ≠ some lb
theorem Ap.len {w : World} {B lb lo : Nat} {L0 L : List RowS} (h : Ap w B lb lo L0 L) : L.length = L0.length := by
 have := congrArg List.length h.shape
 simpa using this
theorem Ap.at {w : World} {B lb lo : Nat} {L0 L : List RowS} (h : Ap w B lb lo L0 L) (k : Nat) (h1 : k < L.length) (h2 : k < L0.length) : L[k].v = L0[k].v ∧ L[k].e = L0[k].e ∧ L[k].size = L0[k].size ∧ L[k].n = L0[k].n := by
 have e : (L.map RowS.head)[k]? = (L0.map RowS.head)[k]? := by rw [h.shape]
 simp only [List.getElem?_map, List.getElem?_eq_getElem h1, List.getElem?_eq_getElem h2, Option.map_some, Option.some.injEq, RowS.head, Prod.mk.injEq] at e
 exact e
theorem Ap.store {w : World} {B lb lo : Nat} {L0 L : List RowS} (h : Ap w B lb lo L0 L) (k : Nat) (hk : k < L.length) {g n cap : Nat} (hv : L[k].v = .slice (some ⟨g, 0, none⟩) n cap) (hn : L[k].n = n) (hs : L[k].size = 1) (j : Nat) (u : Value) :
  Ap (w.setCell ⟨g, j, none⟩ u) B lb lo L0 (L.set k { L[k] with xs := L[k].xs.set j u }) := by
 have hown := h.sep.own k hk
 rw [hv, hn, hs] at hown
 have hst := hown.stored j u
 refine ⟨h.sep.turn k hk _ (by rw [hv]; exact hst.2) (by rw [hv, hn, hs]; exact hst.1) (.inl rfl), ?_, fun i hi => ?_, h.far⟩
 ·rw [List.map_set]
  have e : RowS.head { L[k] with xs := L[k].xs.set j u } = (L.map RowS.head)[k]'(by simpa using hk) := by simp [RowS.head]
  rw [e, List.set_getElem_self]
  exact h.shape
 ·have hlen := h.len
  have hne : g ≠ lb := by
   have := h.far k (by omega)
   have h2 := (h.at k hk (by omega)).1
   rw [← h2, hv] at this
   intro e
   exact this (by simp [Value.ownBlock, e])
  exact hst.2.cell (h.cells i hi) (by simp; omega)
/-- the marks of list k, up to place n -/
def Marks (mk : Nat → Nat → Value) (k n : Nat) : List Value := (List.range n).map (mk k)
theorem Marks_set (mk : Nat → Nat → Value) (k j : Nat) (xs : List Value) (h : j < xs.length) : (Marks mk k j ++ xs.drop j).set j (mk k j) = Marks mk k (j + 1) ++ xs.drop (j + 1) := set_at (mk k) xs j h
/-- phase 1 at list k, place j -/
structure Ap1 (w : World) (B lb lo : Nat) (L0 : List RowS) (mk : Nat → Nat → Value) (k j : Nat) : Prop where
 ex : ∃ L, Ap w B lb lo L0 L ∧ (∀ i (h : i < L.length), i < k → L[i].xs = Marks mk i L[i].n) ∧ (∀ (h : k < L.length) (h0 : k < L0.length), L[k].xs = Marks mk k j ++ L0[k].xs.drop j)
  ∧ (∀ i (h : i < L.length) (h0 : i < L0.length), k < i → L[i].xs = L0[i].xs)
theorem Ap1.start {w : World} {B lb lo : Nat} {L0 : List RowS} (mk : Nat → Nat → Value) (h : Ap w B lb lo L0 L0) : Ap1 w B lb lo L0 mk 0 0 :=
 ⟨L0, h, fun i _ hi => by omega, fun _ _ => by simp [Marks], fun _ _ _ _ => rfl⟩
theorem Ap1.store {w : World} {B lb lo : Nat} {L0 : List RowS} {mk : Nat → Nat → Value} {k j : Nat} (h : Ap1 w B lb lo L0 mk k j) (hk : k < L0.length) {g n cap : Nat} (hv : L0[k].v = .slice (some ⟨g, 0, none⟩) n cap) (hn : L0[k].n = n) (hs : L0[k].size = 1)
  (hx : L0[k].xs.length = n) (hj : j < n) : Ap1 (w.setCell ⟨g, j, none⟩ (mk k j)) B lb lo L0 mk k (j + 1) := by
 obtain ⟨L, hA, h1, h2, h3⟩ := h.ex
 have hl := hA.len
 have hkL : k < L.length := by omega
 obtain ⟨e1, e2, e3, e4⟩ := hA.at k hkL hk
 refine ⟨L.set k { L[k] with xs := L[k].xs.set j (mk k j) }, hA.store k hkL (e1.trans hv) (e4.trans hn) (e3.trans hs) j (mk k j), fun i hi hik => ?_, fun hkk h0 => ?_, fun i hi h0 hik => ?_⟩
 ·rw [List.length_set] at hi
  simp only [List.getElem_set_ne (show k ≠ i by omega)]
  exact h1 i hi hik
 ·simp only [List.getElem_set_self]
  rw [h2 hkL hk]
  exact Marks_set mk k j _ (by omega)
 ·rw [List.length_set] at hi
  simp only [List.getElem_set_ne (show k ≠ i by omega)]
  exact h3 i hi h0 hik
/-- what is read of list k in phase 1 -/
theorem Ap1.cell {w : World} {B lb lo : Nat} {L0 : List RowS} {mk : Nat → Nat → Value} {k j : Nat} (h : Ap1 w B lb lo L0 mk k j) (i : Nat) (hi : i < L0.length) : w.cell? ⟨lb, lo + i, none⟩ = some L0[i].v := by
 obtain ⟨L, hA, _⟩ := h.ex
 exact hA.cells i hi
theorem Ap1.old {w : World} {B lb lo : Nat} {L0 : List RowS} {mk : Nat → Nat → Value} {k j : Nat} (h : Ap1 w B lb lo L0 mk k j) (hk : k < L0.length) {g n cap : Nat} (hv : L0[k].v = .slice (some ⟨g, 0, none⟩) n cap) (hn : L0[k].n = n) (hs : L0[k].size = 1) (hj : j < n) :
  (∃ u, w.cell? ⟨g, j, none⟩ = some u) ∧ w.frozen? ⟨g, j, none⟩ = false ∧ B ≤ g := by
 obtain ⟨L, hA, h1, h2, h3⟩ := h.ex
 have hl := hA.len
 have hkL : k < L.length := by omega
 obtain ⟨e1, e2, e3, e4⟩ := hA.at k hkL hk
 have hown := hA.sep.own k hkL
 rw [e1.trans hv, e4.trans hn, e3.trans hs] at hown
 refine ⟨?_, hown.frozenAt j, (hown.lt g rfl).1⟩
 rw [hown.cellAt j (by omega)]
 have := hown.1
 exact ⟨_, List.getElem?_eq_getElem (by omega)⟩
/-- phase 2: each list is grown; the grown ones are kept. At list k; the last of G has grown by j. -/
structure Ap2 (w : World) (B lb lo H : Nat) (L0 : List RowS) (mk : Nat → Nat → Value) (e eo : TypeId) (gs : Value) (G : List RowS) : Prop where
 sep : Sep w B (⟨gs, eo, 1, G.length, G.map (·.v)⟩ :: G)
 le : G.length ≤ L0.length
 each : ∀ i (h : i < G.length) (h0 : i < L0.length), G[i].e = e ∧ G[i].size = 1 ∧ G[i].n = L0[i].n + 64 ∧ G[i].xs = Marks mk i (L0[i].n + 64) ∧ (G[i].v.ownBlock = L0[i].v.ownBlock ∨ ∃ g, G[i].v.ownBlock = some g ∧ H ≤ g)
 gsb : ∀ g, gs.ownBlock = some g → H ≤ g
 reads : ∀ i (h : i < L0.length), w.ownsRow B e 1 L0[i].v L0[i].n (Marks mk i L0[i].n)
 cells : ∀ k (h : k < L0.length), w.cell? ⟨lb, lo + k, none⟩ = some L0[k].v
 far : ∀ k (h : k < L0.length), L0[k].v.ownBlock ≠ some lb
 lbH : lb < H
 old : ∀ k (h : k < L0.length) g, L0[k].v.ownBlock = some g → g < H
 apart0 : ∀ i j (hi : i < L0.length) (hj : j < L0.length), i ≠ j → L0[i].apart L0[j]
 heap : H ≤ w.heap.size
 base : B ≤ H
/-- phase 2, within: list k is grown by j so far, and is 'cur' -/
structure Ap2c (w : World) (B lb lo H : Nat) (L0 : List RowS) (mk : Nat → Nat → Value) (e eo : TypeId) (gs : Value) (G : List RowS) (cur : Value) (j : Nat) : Prop where
 main : Ap2 w B lb lo H L0 mk e eo gs G
 lt : G.length < L0.length
 own : w.ownsRow B e 1 cur (L0[G.length].n + j) (Marks mk G.length (L0[G.length].n + j))
 place : cur.ownBlock = L0[G.length].v.ownBlock ∨ ∃ g, cur.ownBlock = some g ∧ H ≤ g
 apG : ∀ i (h : i < G.length), G[i].v.ownBlock = none ∨ G[i].v.ownBlock ≠ cur.ownBlock
 apS : gs.ownBlock = none ∨ gs.ownBlock ≠ cur.ownBlock
theorem Ap2.open {w : World} {B lb lo H : Nat} {L0 : List RowS} {mk : Nat → Nat → Value} {e eo : TypeId} {gs : Value} {G : List RowS} (h : Ap2 w B lb lo H L0 mk e eo gs G) (hlt : G.length < L0.length) : Ap2c w B lb lo H L0 mk e eo gs G L0[G.length].v 0 := by
 refine ⟨h, hlt, by simpa using h.reads G.length hlt, .inl rfl, fun i hi => ?_, ?_⟩
 ·rcases (h.each i hi (by omega)).2.2.2.2 with hp | ⟨g, hp, hg⟩
  ·rw [hp]; exact h.apart0 i G.length (by omega) hlt (by omega)
  ·cases hq : L0[G.length].v.ownBlock with
   | none => exact .inr (by rw [hp]; simp)
   | some q =>
    have := h.old _ hlt q hq
    refine .inr ?_
    rw [hp]
    intro e
    simp only [Option.some.injEq] at e
    omega
 ·cases hq : gs.ownBlock with
  | none => exact .inl rfl
  | some q =>
   have h1 := h.gsb q hq
   refine .inr ?_
   intro e
   have := h.old _ hlt q e.symm
   omega
/-- a world that keeps all that phase 2 holds, but for one row that is apart of the rest -/
theorem Ap2.move {w w' : World} {B lb lo H : Nat} {L0 : List RowS} {mk : Nat → Nat → Value} {e eo : TypeId} {gs : Value} {G : List RowS} (h : Ap2 w B lb lo H L0 mk e eo gs G) {row : Option Nat} (hg : w.grownBy w' row)
  (h1 : ∀ i (hi : i < G.length), G[i].v.ownBlock = none ∨ G[i].v.ownBlock ≠ row) (h2 : gs.ownBlock = none ∨ gs.ownBlock ≠ row) (h3 : row ≠ some lb) (hr : ∀ i (h : i < L0.length), w'.ownsRow B e 1 L0[i].v L0[i].n (Marks mk i L0[i].n)) :
  Ap2 w' B lb lo H L0 mk e eo gs G := by
 refine ⟨h.sep.kept hg (fun i hi => ?_), h.le, h.each, h.gsb, hr, fun k hk => hg.cell (h.cells k hk) (fun e => h3 e.symm), h.far, h.lbH, h.old, h.apart0, Nat.le_trans h.heap hg.size, h.base⟩
 cases i with
 | zero => exact h2
 | succ i => exact h1 i (by simpa using hi)
/-- what only new blocks leave as it was -/
theorem Ap1.kept {w w' : World} {B lb lo : Nat} {L0 : List RowS} {mk : Nat → Nat → Value} {k j : Nat} (h : Ap1 w B lb lo L0 mk k j) (hg : w.grownBy w' none) : Ap1 w' B lb lo L0 mk k j := by
 obtain ⟨L, hA, r⟩ := h.ex
 exact ⟨L, ⟨hA.sep.kept hg (fun i hi => by cases L[i].v.ownBlock <;> simp), hA.shape, fun k hk => hg.cell (hA.cells k hk) (by simp), hA.far⟩, r⟩
theorem Ap2.kept {w w' : World} {B lb lo H : Nat} {L0 : List RowS} {mk : Nat → Nat → Value} {e eo : TypeId} {gs : Value} {G : List RowS} (h : Ap2 w B lb lo H L0 mk e eo gs G) (hg : w.grownBy w' none) : Ap2 w' B lb lo H L0 mk e eo gs G :=
 h.move hg (fun i hi => by cases G[i].v.ownBlock <;> simp) (by cases gs.ownBlock <;> simp) (by simp) (fun i hi => (h.reads i hi).kept hg (by cases L0[i].v.ownBlock <;> simp))
theorem Ap2c.kept {w w' : World} {B lb lo H : Nat} {L0 : List RowS} {mk : Nat → Nat → Value} {e eo : TypeId} {gs : Value} {G : List RowS} {cur : Value} {j : Nat} (h : Ap2c w B lb lo H L0 mk e eo gs G cur j) (hg : w.grownBy w' none) : Ap2c w' B lb lo H L0 mk e eo gs G cur j :=
 ⟨h.main.kept hg, h.lt, h.own.kept hg (by cases cur.ownBlock <;> simp), h.place, h.apG, h.apS⟩
theorem grownBy_drew (w : World) (row : Option Nat) : w.grownBy w.drew row := ⟨rfl, rfl, rfl, Nat.le_refl _, fun _ _ _ => rfl⟩
end
end Go.Proofs.YtlabadkfkbenoaaGreatDoor
