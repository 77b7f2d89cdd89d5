/- Walks and plain laws, merged: Kit Tk KitG KitH SenM TreeP TreeA TreeG. No condition. -/
import Derived.WalkKit
import Derived.WalkSpells
import Derived.WalkLawsBesides
import Derived.Deep.QuietTactic
import Derived.BigQuiet
import Derived.Deep.RegionHeld3
import Derived.Deep.RegionLaw
import Derived.Deep.RegionWith
import Derived.Laws.CopyOwn
import Derived.MapKept
import Derived.Carry
import Derived.OwnWalk
import Derived.RegionCalls
import Derived.Test.YtlabadkfkbenoaaGreatDoorProg
namespace Go.Proofs.YtlabadkfkbenoaaGreatDoor
open Go.RowKit
set_option linter.unusedVariables false
set_option linter.unusedSimpArgs false
set_option maxRecDepth 100000
set_option maxHeartbeats 64000000
section
theorem hid {p : Prop} (h : p) : Hid p := h
structure Ints (k : IntKind) (w : World) (ao : Option Addr) (l : List Int) : Prop where
 wf : ∀ x ∈ l, (Lit.int k x).wf = true
 cell : l.length ≤ 0 ∨ ∃ b off, ao = some ⟨b, off, none⟩ ∧ ∀ i, i < l.length → w.cell? ⟨b, off + i, none⟩ = some (.int k (l.getD i 0))
theorem Ints.at {k : IntKind} {w : World} {ao : Option Addr} {l : List Int} (h : Ints k w ao l) :
  ∃ b off, (l.length ≤ 0 ∨ ao = some ⟨b, off, none⟩) ∧ Hid (∀ i, i < l.length → w.cell? ⟨b, off + i, none⟩ = some (.int k (l.getD i 0))) := by
 rcases h.cell with h0 | ⟨b, off, rfl, hc⟩
 ·exact ⟨0, 0, .inl h0, fun i hi => by omega⟩
 ·exact ⟨b, off, .inr rfl, hc⟩
theorem Ints.nil (k : IntKind) (w : World) (ao : Option Addr) : Ints k w ao [] := ⟨by simp, .inl (by simp)⟩
theorem Ints.mono {k : IntKind} {w w' : World} {ao : Option Addr} {l : List Int} (h : Ints k w ao l) (hb : Below w.heap.size w w') : Ints k w' ao l := by
 refine ⟨h.wf, ?_⟩
 rcases h.cell with h0 | ⟨b, off, rfl, hc⟩
 ·exact .inl h0
 ·exact .inr ⟨b, off, rfl, fun i hi => (hb.cell (World.block_lt_of_cell? w _ (hc i hi))).trans (hc i hi)⟩
theorem Ints.take {k : IntKind} {w : World} {ao : Option Addr} {l : List Int} (h : Ints k w ao l) (n : Nat) : Ints k w ao (l.take n) := by
 refine ⟨fun x hx => h.wf x (List.mem_of_mem_take hx), ?_⟩
 rcases h.cell with h0 | ⟨b, off, rfl, hc⟩
 ·exact .inl (by rw [List.length_take]; omega)
 ·refine .inr ⟨b, off, rfl, fun i hi => ?_⟩
  rw [List.length_take] at hi
  rw [hc i (by omega)]
  simp [List.getD, List.getElem?_take, show i < n by omega]
theorem Ints.news {k : IntKind} {w : World} {ad : Addr} {l : List Int} (h : Ints k w (some ad) l) : ∀ j u, (l.map (Value.int k))[j]? = some u → w.cell? (ad.add j) = some u := by
 intro j u hj
 have hlt : j < l.length := by
  have := (List.getElem?_eq_some_iff.1 hj).1
  simpa using this
 rcases h.cell with h0 | ⟨b, off, h1, h2⟩
 ·omega
 ·cases h1
  have hadd : (⟨b, off, none⟩ : Addr).add j = ⟨b, off + j, none⟩ := by
   unfold Addr.add; split <;> simp_all
  rw [hadd, h2 j hlt, ← hj]
  simp [List.getD, hlt]
theorem own_mono {w w' : World} {base B : Nat} {e : TypeId} {size : Nat} {v : Value} {n : Nat} {xs : List Value} (h : w.ownsRow base e size v n xs) (hb : Below B w w') (hB : w.heap.size ≤ B) : w'.ownsRow base e size v n xs := by
 obtain ⟨h1, h2⟩ := h
 refine ⟨h1, ?_⟩
 rcases h2 with h2 | ⟨g, cap, cur, hv, hg, hh, r⟩
 ·exact .inl h2
 ·exact .inr ⟨g, cap, cur, hv, hg, by rw [hb.block g (Nat.lt_of_lt_of_le (Array.getElem?_eq_some_iff.1 hh).1 hB)]; exact hh, r⟩
theorem own_base {w : World} {base base' : Nat} {e : TypeId} {size : Nat} {v : Value} {n : Nat} {xs : List Value} (h : w.ownsRow base e size v n xs) (hb : base' ≤ base) : w.ownsRow base' e size v n xs := by
 obtain ⟨h1, h2⟩ := h
 refine ⟨h1, ?_⟩
 rcases h2 with h2 | ⟨g, cap, cur, hv, hg, r⟩
 ·exact .inl h2
 ·exact .inr ⟨g, cap, cur, hv, by omega, r⟩
theorem wf_u32 {x : Int} : (Lit.int .u32 x).wf = true ↔ 0 ≤ x ∧ x ≤ 4294967295 := by
 simp [Lit.wf, IntKind.min, IntKind.max, IntKind.signed, IntKind.bits]
theorem wf_i64 {x : Int} : (Lit.int .i64 x).wf = true ↔ -9223372036854775808 ≤ x ∧ x ≤ 9223372036854775807 := by
 simp [Lit.wf, IntKind.min, IntKind.max, IntKind.signed, IntKind.bits]
theorem range_snoc {α : Type} (f : Nat → α) (j : Nat) : (List.range (j + 1)).map f = (List.range j).map f ++ [f j] := by simp [List.range_succ]
theorem set_at {α : Type} (f : Nat → α) (xs : List α) (k : Nat) (h : k < xs.length) : ((List.range k).map f ++ xs.drop k).set k (f k) = (List.range (k + 1)).map f ++ xs.drop (k + 1) := by
 rw [List.set_append_right _ _ (by simp), List.drop_eq_getElem_cons h, range_snoc]
 simp only [List.length_map, List.length_range, Nat.sub_self, List.set_cons_zero, List.append_assoc, List.cons_append, List.nil_append]
theorem grown_refl (w : World) (row : Option Nat) : w.grownBy w row := ⟨rfl, rfl, rfl, Nat.le_refl _, fun _ _ _ => rfl⟩
theorem grown_trans {a b c : World} {row : Option Nat} (h : a.grownBy b row) (k : b.grownBy c row) : a.grownBy c row :=
 ⟨k.os.trans h.os, k.tape.trans h.tape, k.output.trans h.output, Nat.le_trans h.size k.size, fun i hi hn => (k.block i (Nat.lt_of_lt_of_le hi h.size) hn).trans (h.block i hi hn)⟩
theorem ret_int {k : IntKind} {a b : Int} (h : a = b) : Ending.returned (.int k a) = .returned (.int k b) := by rw [h]
theorem ret_bool {a b : Bool} (h : a = b) : Ending.returned (.bool a) = .returned (.bool b) := by rw [h]
end
section
theorem tpa (a : Act) (d : Tmp) (v : Value) : a.put (some d) v = { a with tmps := a.tmps.setIfInBounds d v } := rfl
theorem tpb (a : Act) (v : Value) : a.put none v = a := rfl
theorem tpc {α : Type} (l : List α) (i : Nat) (a : α) : l.toArray.setIfInBounds i a = (l.set i a).toArray := by simp
theorem tpd {α : Type} (l : List α) (x a : α) : (x :: l).set 0 a = a :: l := rfl
theorem tpe {α : Type} (l : List α) (x a : α) (i : Nat) : (x :: l).set (i + 1) a = x :: l.set i a := rfl
section
variable {P : Program} {ops : Array Oper} {Q : Exit → Act → World → Prop} {md : Region.Mode} {S : World → Prop} {oi : Oper} {fuel : Nat} {listed : Array Bool} {a a' : Act} {w : World} {v : Value}
theorem tk (i : Nat) (h : wpAnyH P md ops Q S fuel (listed.setIfInBounds i true) a' w)
  (hi : ops[i]? = some oi := by simp only [List.getElem?_toArray, List.getElem?_cons_succ, List.getElem?_cons_zero]; rfl)
  (hs : Region.noSelect ops = true := by kernel_rfl) (hf : Region.free md ops listed i = true := by kernel_rfl) (hr : (Region.ready md ops listed).contains i = true := by kernel_rfl)
  (hQ : ∀ c a w, Q (.panic c) (a.put oi.dst v) w → Q (.panic c) a w := by intro _ _ _ h; exact h) (hw : Region.wanted oi (yielded ops a.tmps) = true := by rfl)
  (hy : ∀ w, S w → (execOp a.eval oi).run P w = .ok (.value v) w := by intro w' hSw; go_simp; (try with_reducible rfl)) (hS : S w := by assumption) (ha : a.put oi.dst v = a' := by (try simp only [tpa, tpb, tpc, tpd, tpe]); rfl) :
  wpAnyH P md ops Q S (fuel + 1) listed a w :=
 wpAnyH_take hi hs hf hr hQ (.inl ⟨hw, hy⟩) hS (ha ▸ h)
theorem tn (i : Nat) (h : wpAnyH P md ops Q S fuel (listed.setIfInBounds i true) a' w)
  (hi : ops[i]? = some oi := by simp only [List.getElem?_toArray, List.getElem?_cons_succ, List.getElem?_cons_zero]; rfl)
  (hs : Region.noSelect ops = true := by kernel_rfl) (hf : Region.free md ops listed i = true := by kernel_rfl) (hr : (Region.ready md ops listed).contains i = true := by kernel_rfl)
  (hQ : ∀ c a w, Q (.panic c) (a.put oi.dst undef) w → Q (.panic c) a w := by intro _ _ _ h; exact h) (hw : Region.wanted oi (yielded ops a.tmps) = false := by rfl)
  (hS : S w := by assumption) (ha : a.put oi.dst undef = a' := by (try simp only [tpa, tpb, tpc, tpd, tpe]); rfl) : wpAnyH P md ops Q S (fuel + 1) listed a w :=
 wpAnyH_take hi hs hf hr hQ (.inr ⟨hw, rfl⟩) hS (ha ▸ h)
theorem tr (i : Nat) {o : Oper}
  (h : ∀ K' : Act → World → Prop, Shut (∀ a w, S w → (S w → wpAnyH P md ops Q S fuel (listed.setIfInBounds i true) a w) → K' a w) → if Region.wanted o (yielded ops a.tmps) = true then Oper.wp P o a w K' Q else K' (a.put o.dst undef) w)
  (hr : Region.ready md ops listed = [i] := by kernel_rfl) (ho : ops[i]? = some o := by simp only [List.getElem?_toArray, List.getElem?_cons_succ, List.getElem?_cons_zero]; rfl) :
  wpAnyH P md ops Q S (fuel + 1) listed a w :=
 wpAnyH_ready hr (by simp) (AllReadyH.cons ho h AllReadyH.nil)
theorem td (h : Q .normal a w) (hr : Region.ready md ops listed = [] := by kernel_rfl) : wpAnyH P md ops Q S fuel listed a w := wpAnyH_done hr h fuel
end
end
section
structure Appended (w w' : World) (base : Nat) (e : TypeId) (size : Nat) (v v' : Value) (n m : Nat) (xs news : List Value) : Prop where
 own : w'.ownsRow base e size v' (n + m) (xs ++ news)
 old : w'.ownsRow base e size v n xs
 grown : w.grownBy w' v.ownBlock
 place : v'.ownBlock = v.ownBlock ∨ ∃ g, v'.ownBlock = some g ∧ w.heap.size ≤ g ∧ g < w'.heap.size
 nil : v' = .slice none 0 0 ↔ v = .slice none 0 0 ∧ m = 0
theorem own_take_size {w : World} {base : Nat} {e : TypeId} {g n m cap size : Nat} {xs : List Value} (h : w.ownsRow base e size (.slice (some ⟨g, 0, none⟩) n cap) n xs) (hm : m ≤ n) :
  w.ownsRow base e size (.slice (some ⟨g, 0, none⟩) m cap) m (xs.take (m * size)) := by
 obtain ⟨h1, h2⟩ := h
 have hms : m * size ≤ n * size := Nat.mul_le_mul_right _ hm
 refine ⟨by rw [List.length_take, h1]; omega, ?_⟩
 rcases h2 with ⟨hv, _⟩ | ⟨g', cap', cur, hv, hg, hh, a, b, c, d⟩
 ·simp at hv
 ·simp only [Value.slice.injEq, Option.some.injEq, Addr.mk.injEq, and_true, true_and] at hv
  obtain ⟨rfl, rfl⟩ := hv
  refine .inr ⟨g, cap, cur, rfl, hg, hh, by omega, b, c, ?_⟩
  rw [← d, List.take_take, Nat.min_eq_left hms]
theorem append_strong {P : Program} (w : World) (base : Nat) (t ty e : TypeId) (i : TypeInfo) (z : Value) (ht : P.underlying t = some (.slice e)) (hi : P.info? e = some i) (hz : i.zero = some z)
  (hzs : z.cells.size = i.size) (hsz : 0 < i.size) (v : Value) (n : Nat) (xs : List Value) (hown : w.ownsRow base e i.size v n xs)
  (a : Addr) (m c : Nat) (news : List Value) (hl : news.length = m * i.size) (hnews : ∀ j u, news[j]? = some u → w.cell? (a.add j) = some u) (h1 : ∀ u ∈ news, u.oneCell' = true)
  (h63 : n + m ≤ maxLen) (hbytes : (n + m) * i.bytes ≤ 140737488355328) (hbase : base ≤ w.heap.size) :
  ∃ v' w', (Builtin.append_ #[t, t] ty #[v, .slice (some a) m c]).run P w = .ok v' w' ∧ Appended w w' base e i.size v v' n m xs news := by
 have hsmall : n + m ≤ 9223372036854775807 := by simp only [maxLen] at h63; omega
 have hxl := hown.1
 have hlen : (xs ++ news).length = (n + m) * i.size := by rw [List.length_append, hxl, hl, Nat.add_mul]
 have fresh : ∀ old : Nat, ∀ (row : Option Nat),
   let cap := grownCap w (n + m) old e
   let w' := w.drew.alloc (.cells (xs.toArray ++ news.toArray ++ Builtin.zeroCells z.cells (cap - (n + m))) e)
   w'.ownsRow base e i.size (.slice (some ⟨w.heap.size, 0, none⟩) (n + m) cap) (n + m) (xs ++ news) ∧ w.grownBy w' row := by
  intro old row cap w'
  have hge : n + m ≤ cap := grownCap_ge w (n + m) old e
  have hcm : cap ≤ maxLen := grownCap_le_maxLen w (n + m) old e h63
  refine ⟨⟨hlen, .inr ⟨w.heap.size, _, _, rfl, hbase, heap_alloc_new w.drew _, hge, hcm, ?_, ?_⟩⟩, ⟨rfl, rfl, rfl, by simp [w'], fun k hk _ => heap_alloc_old w.drew _ hk⟩⟩
  ·simp only [Array.size_append, List.size_toArray, size_zeroCells, hzs, hxl, hl, ← Nat.add_mul]
   congr 1
   omega
  ·simp only [Array.toList_append, List.append_assoc]
   rw [← List.append_assoc, ← hlen]
   exact List.take_left
 rcases hown.2 with ⟨rfl, rfl⟩ | ⟨g, cap, cur, rfl, hbg, hg, hnc, hcm, hcs, htk⟩
 ·have hx : xs = [] := List.eq_nil_of_length_eq_zero (by simpa using hxl)
  subst hx
  by_cases hm : m = 0
  ·subst hm
   have hn : news = [] := List.eq_nil_of_length_eq_zero (by simpa using hl)
   subst hn
   refine ⟨.slice none 0 0, w, ?_, ⟨World.ownsRow_nil w base e i.size, World.ownsRow_nil w base e i.size, grown_refl _ _, .inl rfl, by simp⟩⟩
   simp [Builtin.append_, run_underlying ht, sizeOf, typeInfo, hi, Builtin.lenOf, Builtin.firstCells, loadCells, loadCellsFrom]
  ·have hb2 : m * i.bytes ≤ 140737488355328 := by simpa using hbytes
   have hr := run_append_nil (P := P) w t ty e i z ht hi hz a m c news hl hnews (by omega) (by omega) (by omega)
   have hf := fresh 0 (Value.ownBlock (.slice none 0 0))
   simp only [Nat.zero_add, List.nil_append, Array.empty_append] at hf ⊢
   refine ⟨_, _, hr, ⟨by simpa using hf.1, World.ownsRow_nil _ _ _ _, hf.2, .inr ⟨w.heap.size, rfl, Nat.le_refl _, by simp⟩, by simp [hm]⟩⟩
 ·by_cases hroom : n + m ≤ cap
  ·have hfit : n * i.size + news.length ≤ cur.size := by rw [hl, hcs, ← Nat.add_mul]; exact Nat.mul_le_mul_right _ hroom
   have hr := run_append_room (P := P) w t ty e i ht hi g n cap cur hg a m c news hl hnews h1 hroom hfit
   have hown' : (w.setRow g (cur.toList.take (n * i.size) ++ news ++ cur.toList.drop (n * i.size + news.length)).toArray).ownsRow base e i.size (.slice (some ⟨g, 0, none⟩) (n + m) cap) (n + m) (xs ++ news) := by
    refine ⟨hlen, .inr ⟨g, cap, _, rfl, hbg, setRow_heap w g cur _ e _ hg, hroom, hcm, ?_, ?_⟩⟩
    ·simp only [List.size_toArray, List.length_append, List.length_take, List.length_drop, Array.length_toList]
     omega
    ·rw [htk, ← hlen]
     exact List.take_left
   refine ⟨_, _, hr, ⟨hown', ?_, ⟨rfl, rfl, rfl, by simp, fun k _ hk => setRow_other w g k _ (fun e => hk (by simp [Value.ownBlock, e]))⟩, .inl rfl, by simp⟩⟩
   have h2 := own_take_size hown' (show n ≤ n + m by omega)
   have h3 : (xs ++ news).take (n * i.size) = xs := by rw [← hxl]; exact List.take_left
   rw [h3] at h2
   exact h2
  ·have holds : ∀ j u, xs[j]? = some u → w.cell? ((⟨g, 0, none⟩ : Addr).add j) = some u := hown.cells (g := g) rfl
   have hr := run_append_grow (P := P) w t ty e i z ht hi hz ⟨g, 0, none⟩ n cap xs hxl holds a m c news hl hnews (by omega) (by omega) (growslice_fits (by omega) hbytes)
   have hf := fresh cap (Value.ownBlock (.slice (some ⟨g, 0, none⟩) n cap))
   have hf2 := (fresh cap none).2
   refine ⟨_, _, hr, ⟨hf.1, ?_, hf.2, .inr ⟨w.heap.size, rfl, Nat.le_refl _, by simp⟩, by simp⟩⟩
   exact hown.kept hf2 (.inr (by simp [Value.ownBlock]))
theorem wpList_append_str {P : Program} {w : World} {ops : Array Oper} {rest : List Oper} {o : Oper} {a : Act} {Q : Exit → Act → World → Prop} (hgd : o.guard = none) (s x : Operand) (t : TypeId)
  (ho : o.op = .call { callee := .builtin .append, args := #[s, x], argTypes := #[t, t] })
  (base : Nat) (e e' : TypeId) (z : Value) (size bytes m : Nat) (ht : P.underlying t = some (.slice e)) (hinfo : (P.info? e).map (fun i => (i.zero, i.size, i.bytes)) = some (some z, size, bytes))
  (hzs : z.cells.size = size) (hsz : 0 < size)
  (v : Value) (n : Nat) (xs news : List Value) (fr : Nat × Nat) (hown : w.ownsRow base e size v n xs) (hl : news.length = m * size) (h1 : ∀ u ∈ news, u.oneCell' = true)
  (h63 : n + m ≤ maxLen) (hbytes : (n + m) * bytes ≤ 140737488355328) (hbase : base ≤ w.heap.size)
  (hs : a.eval s = v) (hx : a.eval x = .slice (some ⟨w.heap.size, 0, none⟩) m m)
  (h : ∀ v' w', Appended w w' base e size v v' n m xs news → wpList P ops Q rest (a.put o.dst v') w') :
  wpList P ops Q (o :: rest) a (w.alloc (.cells news.toArray e' fr)) := by
 obtain ⟨i, hi, hz0, hz1, hz2⟩ := info_parts hinfo
 subst hz1
 subst hz2
 refine wpList_plain hgd fun K hK => ?_
 obtain ⟨v', w', hr, hA⟩ := append_strong (P := P) (w.alloc (.cells news.toArray e' fr)) base t o.type e i z ht hi hz0 hzs hsz v n xs (hown.alloc _) ⟨w.heap.size, 0, none⟩ m m news hl (by
  intro j u hj
  have hadd : (⟨w.heap.size, 0, none⟩ : Addr).add j = ⟨w.heap.size, j, none⟩ := by unfold Addr.add; split <;> simp_all
  rw [hadd, World.cell?_alloc_mark]; simpa using hj) h1 h63 hbytes (by simp; omega)
 unfold Oper.wp execOp
 simp only [ho, resolve, invoke, builtin, Sem.run_bind, Sem.run_pure, Result.andThen_ok, List.map_toArray, List.map_cons, List.map_nil, hs, hx, hr]
 refine hK _ _ (h v' w' ⟨hA.own, hA.old, grown_trans (World.grownBy_alloc w _ _) hA.grown, ?_, hA.nil⟩)
 rcases hA.place with h | ⟨g, h1, h2, h3⟩
 ·exact .inl h
 ·exact .inr ⟨g, h1, by simp at h2; omega, h3⟩
theorem Appended.other {w w' : World} {base base' : Nat} {e e' : TypeId} {size size' : Nat} {v v' u : Value} {n m k : Nat} {xs news ys : List Value} (hA : Appended w w' base e size v v' n m xs news)
  (h : w.ownsRow base' e' size' u k ys) (hne : u.ownBlock = none ∨ u.ownBlock ≠ v.ownBlock) : w'.ownsRow base' e' size' u k ys ∧ (u.ownBlock = none ∨ u.ownBlock ≠ v'.ownBlock) := by
 refine ⟨h.kept hA.grown hne, ?_⟩
 rcases hne with h0 | h0
 ·exact .inl h0
 ·rcases hA.place with hp | ⟨g, hp, hg, _⟩
  ·exact .inr (by rw [hp]; exact h0)
  ·cases hu : u.ownBlock with
   | none => exact .inl rfl
   | some q =>
    right
    rw [hp]
    intro hq
    simp only [Option.some.injEq] at hq
    have := (h.lt q hu).2
    omega
theorem Appended.below {w w' : World} {base : Nat} {e : TypeId} {size : Nat} {v v' : Value} {n m : Nat} {xs news : List Value} (hA : Appended w w' base e size v v' n m xs news) (h : w.ownsRow base e size v n xs) (hB : base ≤ w.heap.size) : Below base w w' :=
 (Below.refl base w).grown hA.grown hB (fun k hk => (h.lt k hk).1)
/-! Rows that lie apart from one another. -/
structure RowS where
 v : Value
 e : TypeId
 size : Nat
 n : Nat
 xs : List Value
def RowS.apart (a b : RowS) : Prop := a.v.ownBlock = none ∨ a.v.ownBlock ≠ b.v.ownBlock
theorem RowS.apart_symm {a b : RowS} (h : a.apart b) : b.apart a := by
 rcases h with h | h
 ·cases hb : b.v.ownBlock with
  | none => exact .inl hb
  | some q => exact .inr (by rw [hb, h]; simp)
 ·exact .inr (fun e => h e.symm)
structure Sep (w : World) (B : Nat) (L : List RowS) : Prop where
 own : ∀ i (h : i < L.length), w.ownsRow B L[i].e L[i].size L[i].v L[i].n L[i].xs
 apart : ∀ i j (hi : i < L.length) (hj : j < L.length), i ≠ j → L[i].apart L[j]
theorem Sep.nil (w : World) (B : Nat) : Sep w B [] := ⟨fun i h => by simp at h, fun i j h => by simp at h⟩
theorem Sep.turn {w w' : World} {B : Nat} {L : List RowS} (h : Sep w B L) (k : Nat) (hk : k < L.length) (r : RowS) (hg : w.grownBy w' L[k].v.ownBlock) (hr : w'.ownsRow B r.e r.size r.v r.n r.xs)
  (hp : r.v.ownBlock = L[k].v.ownBlock ∨ ∃ g, r.v.ownBlock = some g ∧ w.heap.size ≤ g) : Sep w' B (L.set k r) := by
 refine ⟨fun i hi => ?_, fun i j hi hj hij => ?_⟩
 ·rw [List.length_set] at hi
  by_cases hik : k = i
  ·subst hik; simpa using hr
  ·rw [List.getElem_set_ne hik]
   exact (h.own i hi).kept hg (h.apart i k hi hk (fun e => hik e.symm))
 ·rw [List.length_set] at hi hj
  have key : ∀ i (hi : i < L.length), i ≠ k → L[i].apart r := by
   intro i hi hik
   rcases hp with hp | ⟨g, hp, hg2⟩
   ·rcases h.apart i k hi hk hik with h1 | h1
    ·exact .inl h1
    ·exact .inr (by rw [hp]; exact h1)
   ·cases hb : L[i].v.ownBlock with
    | none => exact .inl hb
    | some q =>
     refine .inr ?_
     rw [hb, hp]
     intro e
     simp only [Option.some.injEq] at e
     have := ((h.own i hi).lt q hb).2
     omega
  by_cases hik : k = i
  ·subst hik
   rw [List.getElem_set_self, List.getElem_set_ne hij]
   exact RowS.apart_symm (key j hj (fun e => hij e.symm))
  ·by_cases hjk : k = j
   ·subst hjk
    rw [List.getElem_set_self, List.getElem_set_ne hik]
    exact key i hi (fun e => hik e.symm)
   ·rw [List.getElem_set_ne hik, List.getElem_set_ne hjk]
    exact h.apart i j hi hj hij
theorem Sep.kept {w w' : World} {B : Nat} {L : List RowS} (h : Sep w B L) {row : Option Nat} (hg : w.grownBy w' row) (hn : ∀ i (hi : i < L.length), L[i].v.ownBlock = none ∨ L[i].v.ownBlock ≠ row) : Sep w' B L :=
 ⟨fun i hi => (h.own i hi).kept hg (hn i hi), h.apart⟩
theorem Sep.alloc {w : World} {B : Nat} {L : List RowS} (h : Sep w B L) (o : Obj) : Sep (w.alloc o) B L :=
 h.kept (World.grownBy_alloc w o none) (fun i hi => by cases hq : L[i].v.ownBlock <;> simp)
theorem Sep.drew {w : World} {B : Nat} {L : List RowS} (h : Sep w B L) : Sep w.drew B L := ⟨fun i hi => (h.own i hi).drew, h.apart⟩
theorem Sep.below {w w' : World} {B C : Nat} {L : List RowS} (h : Sep w B L) (hb : Below C w w') (hC : w.heap.size ≤ C) : Sep w' B L := ⟨fun i hi => own_mono (h.own i hi) hb hC, h.apart⟩
theorem Sep.base {w : World} {B B' : Nat} {L : List RowS} (h : Sep w B L) (hB : B' ≤ B) : Sep w B' L := ⟨fun i hi => own_base (h.own i hi) hB, h.apart⟩
theorem Sep.push {w : World} {B : Nat} {L : List RowS} (h : Sep w B L) (r : RowS) (hr : w.ownsRow B r.e r.size r.v r.n r.xs) (ha : ∀ i (hi : i < L.length), L[i].apart r) : Sep w B (L ++ [r]) := by
 refine ⟨fun i hi => ?_, fun i j hi hj hij => ?_⟩
 ·by_cases h1 : i < L.length
  ·rw [List.getElem_append_left h1]; exact h.own i h1
  ·rw [List.getElem_append_right (by omega)]; simpa using hr
 ·simp only [List.length_append, List.length_singleton] at hi hj
  by_cases h1 : i < L.length <;> by_cases h2 : j < L.length
  ·rw [List.getElem_append_left h1, List.getElem_append_left h2]; exact h.apart i j h1 h2 hij
  ·rw [List.getElem_append_left h1, List.getElem_append_right (by omega)]; simpa using ha i h1
  ·rw [List.getElem_append_left h2, List.getElem_append_right (by omega)]; simpa using RowS.apart_symm (ha j h2)
  ·omega
end
section
/-! What the Apart functions do to lists that were handed out (elements of one cell). -/
def RowS.head (r : RowS) : Value × TypeId × Nat × Nat := (r.v, r.e, r.size, r.n)
structure Ap (w : World) (B lb lo : Nat) (L0 L : List RowS) : Prop where
 sep : Sep w B L
 shape : L.map RowS.head = L0.map RowS.head
 cells : ∀ k (h : k < L0.length), w.cell? ⟨lb, lo + k, none⟩ = some L0[k].v
 far : ∀ k (h : k < L0.length), L0[k].v.ownBlock ≠ some lb
theorem Ap.len {w : World} {B lb lo : Nat} {L0 L : List RowS} (h : Ap w B lb lo L0 L) : L.length = L0.length := by
 have := congrArg List.length h.shape
 simpa using this
theorem Ap.at {w : World} {B lb lo : Nat} {L0 L : List RowS} (h : Ap w B lb lo L0 L) (k : Nat) (h1 : k < L.length) (h2 : k < L0.length) : L[k].v = L0[k].v ∧ L[k].e = L0[k].e ∧ L[k].size = L0[k].size ∧ L[k].n = L0[k].n := by
 have e : (L.map RowS.head)[k]? = (L0.map RowS.head)[k]? := by rw [h.shape]
 simp only [List.getElem?_map, List.getElem?_eq_getElem h1, List.getElem?_eq_getElem h2, Option.map_some, Option.some.injEq, RowS.head, Prod.mk.injEq] at e
 exact e
theorem Ap.store {w : World} {B lb lo : Nat} {L0 L : List RowS} (h : Ap w B lb lo L0 L) (k : Nat) (hk : k < L.length) {g n cap : Nat} (hv : L[k].v = .slice (some ⟨g, 0, none⟩) n cap) (hn : L[k].n = n) (hs : L[k].size = 1) (j : Nat) (u : Value) :
  Ap (w.setCell ⟨g, j, none⟩ u) B lb lo L0 (L.set k { L[k] with xs := L[k].xs.set j u }) := by
 have hown := h.sep.own k hk
 rw [hv, hn, hs] at hown
 have hst := hown.stored j u
 refine ⟨h.sep.turn k hk _ (by rw [hv]; exact hst.2) (by rw [hv, hn, hs]; exact hst.1) (.inl rfl), ?_, fun i hi => ?_, h.far⟩
 ·rw [List.map_set]
  have e : RowS.head { L[k] with xs := L[k].xs.set j u } = (L.map RowS.head)[k]'(by simpa using hk) := by simp [RowS.head]
  rw [e, List.set_getElem_self]
  exact h.shape
 ·have hlen := h.len
  have hne : g ≠ lb := by
   have := h.far k (by omega)
   have h2 := (h.at k hk (by omega)).1
   rw [← h2, hv] at this
   intro e
   exact this (by simp [Value.ownBlock, e])
  exact hst.2.cell (h.cells i hi) (by simp; omega)
def Marks (mk : Nat → Nat → Value) (k n : Nat) : List Value := (List.range n).map (mk k)
theorem Marks_set (mk : Nat → Nat → Value) (k j : Nat) (xs : List Value) (h : j < xs.length) : (Marks mk k j ++ xs.drop j).set j (mk k j) = Marks mk k (j + 1) ++ xs.drop (j + 1) := set_at (mk k) xs j h
structure Ap1 (w : World) (B lb lo : Nat) (L0 : List RowS) (mk : Nat → Nat → Value) (k j : Nat) : Prop where
 ex : ∃ L, Ap w B lb lo L0 L ∧ (∀ i (h : i < L.length), i < k → L[i].xs = Marks mk i L[i].n) ∧ (∀ (h : k < L.length) (h0 : k < L0.length), L[k].xs = Marks mk k j ++ L0[k].xs.drop j)
  ∧ (∀ i (h : i < L.length) (h0 : i < L0.length), k < i → L[i].xs = L0[i].xs)
theorem Ap1.start {w : World} {B lb lo : Nat} {L0 : List RowS} (mk : Nat → Nat → Value) (h : Ap w B lb lo L0 L0) : Ap1 w B lb lo L0 mk 0 0 :=
 ⟨L0, h, fun i _ hi => by omega, fun _ _ => by simp [Marks], fun _ _ _ _ => rfl⟩
theorem Ap1.store {w : World} {B lb lo : Nat} {L0 : List RowS} {mk : Nat → Nat → Value} {k j : Nat} (h : Ap1 w B lb lo L0 mk k j) (hk : k < L0.length) {g n cap : Nat} (hv : L0[k].v = .slice (some ⟨g, 0, none⟩) n cap) (hn : L0[k].n = n) (hs : L0[k].size = 1)
  (hx : L0[k].xs.length = n) (hj : j < n) : Ap1 (w.setCell ⟨g, j, none⟩ (mk k j)) B lb lo L0 mk k (j + 1) := by
 obtain ⟨L, hA, h1, h2, h3⟩ := h.ex
 have hl := hA.len
 have hkL : k < L.length := by omega
 obtain ⟨e1, e2, e3, e4⟩ := hA.at k hkL hk
 refine ⟨L.set k { L[k] with xs := L[k].xs.set j (mk k j) }, hA.store k hkL (e1.trans hv) (e4.trans hn) (e3.trans hs) j (mk k j), fun i hi hik => ?_, fun hkk h0 => ?_, fun i hi h0 hik => ?_⟩
 ·rw [List.length_set] at hi
  simp only [List.getElem_set_ne (show k ≠ i by omega)]
  exact h1 i hi hik
 ·simp only [List.getElem_set_self]
  rw [h2 hkL hk]
  exact Marks_set mk k j _ (by omega)
 ·rw [List.length_set] at hi
  simp only [List.getElem_set_ne (show k ≠ i by omega)]
  exact h3 i hi h0 hik
theorem Ap1.cell {w : World} {B lb lo : Nat} {L0 : List RowS} {mk : Nat → Nat → Value} {k j : Nat} (h : Ap1 w B lb lo L0 mk k j) (i : Nat) (hi : i < L0.length) : w.cell? ⟨lb, lo + i, none⟩ = some L0[i].v := by
 obtain ⟨L, hA, _⟩ := h.ex
 exact hA.cells i hi
theorem Ap1.old {w : World} {B lb lo : Nat} {L0 : List RowS} {mk : Nat → Nat → Value} {k j : Nat} (h : Ap1 w B lb lo L0 mk k j) (hk : k < L0.length) {g n cap : Nat} (hv : L0[k].v = .slice (some ⟨g, 0, none⟩) n cap) (hn : L0[k].n = n) (hs : L0[k].size = 1) (hj : j < n) :
  (∃ u, w.cell? ⟨g, j, none⟩ = some u) ∧ w.frozen? ⟨g, j, none⟩ = false ∧ B ≤ g := by
 obtain ⟨L, hA, h1, h2, h3⟩ := h.ex
 have hl := hA.len
 have hkL : k < L.length := by omega
 obtain ⟨e1, e2, e3, e4⟩ := hA.at k hkL hk
 have hown := hA.sep.own k hkL
 rw [e1.trans hv, e4.trans hn, e3.trans hs] at hown
 refine ⟨?_, hown.frozenAt j, (hown.lt g rfl).1⟩
 rw [hown.cellAt j (by omega)]
 have := hown.1
 exact ⟨_, List.getElem?_eq_getElem (by omega)⟩
structure Ap2 (w : World) (B lb lo H : Nat) (L0 : List RowS) (mk : Nat → Nat → Value) (e eo : TypeId) (gs : Value) (G : List RowS) : Prop where
 sep : Sep w B (⟨gs, eo, 1, G.length, G.map (·.v)⟩ :: G)
 le : G.length ≤ L0.length
 each : ∀ i (h : i < G.length) (h0 : i < L0.length), G[i].e = e ∧ G[i].size = 1 ∧ G[i].n = L0[i].n + 64 ∧ G[i].xs = Marks mk i (L0[i].n + 64) ∧ (G[i].v.ownBlock = L0[i].v.ownBlock ∨ ∃ g, G[i].v.ownBlock = some g ∧ H ≤ g)
 gsb : ∀ g, gs.ownBlock = some g → H ≤ g
 reads : ∀ i (h : i < L0.length), w.ownsRow B e 1 L0[i].v L0[i].n (Marks mk i L0[i].n)
 cells : ∀ k (h : k < L0.length), w.cell? ⟨lb, lo + k, none⟩ = some L0[k].v
 far : ∀ k (h : k < L0.length), L0[k].v.ownBlock ≠ some lb
 lbH : lb < H
 old : ∀ k (h : k < L0.length) g, L0[k].v.ownBlock = some g → g < H
 apart0 : ∀ i j (hi : i < L0.length) (hj : j < L0.length), i ≠ j → L0[i].apart L0[j]
 heap : H ≤ w.heap.size
 base : B ≤ H
structure Ap2c (w : World) (B lb lo H : Nat) (L0 : List RowS) (mk : Nat → Nat → Value) (e eo : TypeId) (gs : Value) (G : List RowS) (cur : Value) (j : Nat) : Prop where
 main : Ap2 w B lb lo H L0 mk e eo gs G
 lt : G.length < L0.length
 own : w.ownsRow B e 1 cur (L0[G.length].n + j) (Marks mk G.length (L0[G.length].n + j))
 place : cur.ownBlock = L0[G.length].v.ownBlock ∨ ∃ g, cur.ownBlock = some g ∧ H ≤ g
 apG : ∀ i (h : i < G.length), G[i].v.ownBlock = none ∨ G[i].v.ownBlock ≠ cur.ownBlock
 apS : gs.ownBlock = none ∨ gs.ownBlock ≠ cur.ownBlock
theorem Ap2.open {w : World} {B lb lo H : Nat} {L0 : List RowS} {mk : Nat → Nat → Value} {e eo : TypeId} {gs : Value} {G : List RowS} (h : Ap2 w B lb lo H L0 mk e eo gs G) (hlt : G.length < L0.length) : Ap2c w B lb lo H L0 mk e eo gs G L0[G.length].v 0 := by
 refine ⟨h, hlt, by simpa using h.reads G.length hlt, .inl rfl, fun i hi => ?_, ?_⟩
 ·rcases (h.each i hi (by omega)).2.2.2.2 with hp | ⟨g, hp, hg⟩
  ·rw [hp]; exact h.apart0 i G.length (by omega) hlt (by omega)
  ·cases hq : L0[G.length].v.ownBlock with
   | none => exact .inr (by rw [hp]; simp)
   | some q =>
    have := h.old _ hlt q hq
    refine .inr ?_
    rw [hp]
    intro e
    simp only [Option.some.injEq] at e
    omega
 ·cases hq : gs.ownBlock with
  | none => exact .inl rfl
  | some q =>
   have h1 := h.gsb q hq
   refine .inr ?_
   intro e
   have := h.old _ hlt q e.symm
   omega
theorem Ap2.move {w w' : World} {B lb lo H : Nat} {L0 : List RowS} {mk : Nat → Nat → Value} {e eo : TypeId} {gs : Value} {G : List RowS} (h : Ap2 w B lb lo H L0 mk e eo gs G) {row : Option Nat} (hg : w.grownBy w' row)
  (h1 : ∀ i (hi : i < G.length), G[i].v.ownBlock = none ∨ G[i].v.ownBlock ≠ row) (h2 : gs.ownBlock = none ∨ gs.ownBlock ≠ row) (h3 : row ≠ some lb) (hr : ∀ i (h : i < L0.length), w'.ownsRow B e 1 L0[i].v L0[i].n (Marks mk i L0[i].n)) :
  Ap2 w' B lb lo H L0 mk e eo gs G := by
 refine ⟨h.sep.kept hg (fun i hi => ?_), h.le, h.each, h.gsb, hr, fun k hk => hg.cell (h.cells k hk) (fun e => h3 e.symm), h.far, h.lbH, h.old, h.apart0, Nat.le_trans h.heap hg.size, h.base⟩
 cases i with
 | zero => exact h2
 | succ i => exact h1 i (by simpa using hi)
theorem Ap1.kept {w w' : World} {B lb lo : Nat} {L0 : List RowS} {mk : Nat → Nat → Value} {k j : Nat} (h : Ap1 w B lb lo L0 mk k j) (hg : w.grownBy w' none) : Ap1 w' B lb lo L0 mk k j := by
 obtain ⟨L, hA, r⟩ := h.ex
 exact ⟨L, ⟨hA.sep.kept hg (fun i hi => by cases L[i].v.ownBlock <;> simp), hA.shape, fun k hk => hg.cell (hA.cells k hk) (by simp), hA.far⟩, r⟩
theorem Ap2.kept {w w' : World} {B lb lo H : Nat} {L0 : List RowS} {mk : Nat → Nat → Value} {e eo : TypeId} {gs : Value} {G : List RowS} (h : Ap2 w B lb lo H L0 mk e eo gs G) (hg : w.grownBy w' none) : Ap2 w' B lb lo H L0 mk e eo gs G :=
 h.move hg (fun i hi => by cases G[i].v.ownBlock <;> simp) (by cases gs.ownBlock <;> simp) (by simp) (fun i hi => (h.reads i hi).kept hg (by cases L0[i].v.ownBlock <;> simp))
theorem Ap2c.kept {w w' : World} {B lb lo H : Nat} {L0 : List RowS} {mk : Nat → Nat → Value} {e eo : TypeId} {gs : Value} {G : List RowS} {cur : Value} {j : Nat} (h : Ap2c w B lb lo H L0 mk e eo gs G cur j) (hg : w.grownBy w' none) : Ap2c w' B lb lo H L0 mk e eo gs G cur j :=
 ⟨h.main.kept hg, h.lt, h.own.kept hg (by cases cur.ownBlock <;> simp), h.place, h.apG, h.apS⟩
theorem grownBy_drew (w : World) (row : Option Nat) : w.grownBy w.drew row := ⟨rfl, rfl, rfl, Nat.le_refl _, fun _ _ _ => rfl⟩
end
section
open Go.MapKept (run_checkKey run_findKey run_setObj_map IsKey bytes_beq run_keyThatStays heap_set)
def lookI {α : Type} (s : ByteArray) : List (ByteArray × α) → Nat → Option (Nat × α)
 | [], _ => none
 | x :: r, i => if s == x.1 then some (i, x.2) else lookI s r (i + 1)
def getM {α : Type} (s : ByteArray) (l : List (ByteArray × α)) : Option α := (lookI s l 0).map (·.2)
def putM {α : Type} (s : ByteArray) (v : α) : List (ByteArray × α) → List (ByteArray × α)
 | [] => [(s, v)]
 | x :: r => if s == x.1 then (s, v) :: r else x :: putM s v r
theorem lookI_shift {α : Type} (s : ByteArray) : ∀ (l : List (ByteArray × α)) (i : Nat), lookI s l i = (lookI s l 0).map fun x => (x.1 + i, x.2)
 | [], i => rfl
 | x :: r, i => by
  simp only [lookI]
  split
  ·simp
  ·rw [lookI_shift s r (i + 1), lookI_shift s r (0 + 1)]
   cases lookI s r 0 <;> simp <;> omega
theorem getM_cons {α : Type} (s : ByteArray) (x : ByteArray × α) (r : List (ByteArray × α)) : getM s (x :: r) = if s == x.1 then some x.2 else getM s r := by
 unfold getM
 simp only [lookI]
 split
 ·rfl
 ·rw [lookI_shift s r (0 + 1)]
  cases lookI s r 0 <;> rfl
def Mp (w : World) (b : Nat) (l : List (ByteArray × Value)) : Prop :=
 ∃ (es : Array MapEntry) (clock : Nat), w.heap[b]? = some (.map es clock) ∧ es.toList.map (fun e => (e.key, e.val)) = l.map fun x => (Value.string x.1, x.2)
theorem Mp.new (w : World) : Mp (w.alloc (.map #[] 0)) w.heap.size [] := ⟨#[], 0, heap_alloc_new w _, rfl⟩
theorem Mp.lt {w : World} {b : Nat} {l : List (ByteArray × Value)} (h : Mp w b l) : b < w.heap.size := by
 obtain ⟨es, c, h, _⟩ := h
 exact lt_of_block h
theorem Mp.on {w w' : World} {b : Nat} {l : List (ByteArray × Value)} (h : Mp w b l) {row : Option Nat} (hg : w.grownBy w' row) (hn : some b ≠ row) : Mp w' b l := by
 obtain ⟨es, c, h, h2⟩ := h
 exact ⟨es, c, (hg.block b (lt_of_block h) hn).trans h, h2⟩
theorem findNow_str (s : ByteArray) : ∀ (es : List MapEntry) (l : List (ByteArray × Value)) (i : Nat), es.map (fun e => (e.key, e.val)) = l.map (fun x => (Value.string x.1, x.2)) → Instr.findNow .string (.string s) es i = some (lookI s l i)
 | [], [], i, _ => rfl
 | [], x :: l, i, h => by cases h
 | e :: es, [], i, h => by cases h
 | e :: es, x :: l, i, h => by
  simp only [List.map_cons, List.cons.injEq, Prod.mk.injEq] at h
  obtain ⟨⟨h1, h2⟩, h3⟩ := h
  simp only [Instr.findNow, h1, Instr.sameNow, lookI]
  cases hq : s == x.1
  ·simp only [Bool.false_eq_true, if_false]
   exact findNow_str s es l (i + 1) h3
  ·simp only [if_true, h2]
theorem lookI_none {α : Type} (s : ByteArray) (v : α) : ∀ (l : List (ByteArray × α)), lookI s l 0 = none → putM s v l = l ++ [(s, v)]
 | [], _ => rfl
 | x :: r, h => by
  simp only [lookI] at h
  cases hq : s == x.1
  ·rw [hq, lookI_shift] at h
   simp only [Bool.false_eq_true, if_false, Option.map_eq_none_iff] at h
   simp only [putM, hq, Bool.false_eq_true, if_false, lookI_none s v r h, List.cons_append]
  ·rw [hq] at h
   cases h
theorem lookI_some {α : Type} (s : ByteArray) (v : α) : ∀ (l : List (ByteArray × α)) (j : Nat) (y : α), lookI s l 0 = some (j, y) → j < l.length ∧ putM s v l = l.set j (s, v) ∧ l[j]? = some (s, y)
 | [], j, y, h => by cases h
 | x :: r, j, y, h => by
  simp only [lookI] at h
  cases hq : s == x.1
  ·rw [hq, lookI_shift] at h
   simp only [Bool.false_eq_true, if_false] at h
   cases hr : lookI s r 0 with
   | none => rw [hr] at h; cases h
   | some a =>
    obtain ⟨a1, a2⟩ := a
    rw [hr] at h
    simp only [Option.map_some, Option.some.injEq, Prod.mk.injEq] at h
    obtain ⟨rfl, rfl⟩ := h
    obtain ⟨h1, h2, h3⟩ := lookI_some s v r a1 a2 hr
    refine ⟨by simp; omega, ?_, by simpa using h3⟩
    simp only [putM, hq, Bool.false_eq_true, if_false, h2, List.set_cons_succ, Nat.zero_add]
  ·rw [hq] at h
   simp only [if_true, Option.some.injEq, Prod.mk.injEq] at h
   obtain ⟨rfl, rfl⟩ := h
   have : x.1 = s := ((bytes_beq s x.1).1 hq).symm
   refine ⟨by simp, by simp [putM, hq], ?_⟩
   rw [← this]
   rfl
section
variable {P : Program} {w : World} {b : Nat} {l : List (ByteArray × Value)} {T K E : TypeId}
theorem Mp.lookup (h : Mp w b l) (hT : P.underlying T = some (.map K E)) (hK : P.underlying K = some .string) (s : ByteArray) (z : Value) (hz : (zeroValue E).run P w = .ok z w) (c : Bool) :
  (Instr.lookup T (.map (some b)) (.string s) c).run P w = .ok (if c then .tuple #[(getM s l).getD z, .bool (getM s l).isSome] else (getM s l).getD z) w := by
 obtain ⟨es, k, h1, h2⟩ := h
 have hf := findNow_str s es.toList l 0 h2
 have hck : (Instr.checkKey es.isEmpty 10000 K (.string s)).run P w = .ok () w := run_checkKey hK (k := .string s) (by simp [IsKey]) es.isEmpty 9999
 cases hl : lookI s l 0 with
 | none =>
  rw [hl] at hf
  have hg : getM s l = none := by unfold getM; rw [hl]; rfl
  rw [hg]
  simp [Instr.lookup, run_underlying hT, MapKept.run_getObj_map h1, hck, run_findKey hK hf, hz, Result.andThen]
 | some a =>
  obtain ⟨j, y⟩ := a
  rw [hl] at hf
  have hg : getM s l = some y := by unfold getM; rw [hl]; rfl
  rw [hg]
  simp [Instr.lookup, run_underlying hT, MapKept.run_getObj_map h1, hck, run_findKey hK hf, Result.andThen]
theorem Mp.update (h : Mp w b l) (hT : P.underlying T = some (.map K E)) (hK : P.underlying K = some .string) (s : ByteArray) (v : Value) :
  ∃ w', (Instr.mapUpdate T (.map (some b)) (.string s) v).run P w = .ok () w' ∧ w.grownBy w' (some b) ∧ w'.heap.size = w.heap.size ∧ Mp w' b (putM s v l) := by
 obtain ⟨es, k, h1, h2⟩ := h
 have hf := findNow_str s es.toList l 0 h2
 have hck : (Instr.checkKey false 10000 K (.string s)).run P w = .ok () w := run_checkKey hK (k := .string s) (by simp [IsKey]) false 9999
 have hgr : ∀ o, w.grownBy { w with heap := w.heap.setIfInBounds b o } (some b) := fun o => ⟨rfl, rfl, rfl, by simp, fun i hi hn => by
  have : b ≠ i := fun q => hn (by rw [q])
  simp [this]⟩
 cases hl : lookI s l 0 with
 | none =>
  rw [hl] at hf
  refine ⟨_, by simp [Instr.mapUpdate, run_underlying hT, MapKept.run_getObj_map h1, hck, run_findKey hK hf, run_setObj_map _ h1, Result.andThen]; rfl, hgr _, by simp, ?_⟩
  refine ⟨_, _, (heap_set h1).1, ?_⟩
  rw [lookI_none s v l hl]
  simp [h2]
 | some a =>
  obtain ⟨j, y⟩ := a
  rw [hl] at hf
  obtain ⟨hj, hp, hat⟩ := lookI_some s v l j y hl
  have hlen : es.toList.length = l.length := by simpa using congrArg List.length h2
  have hj2 : j < es.size := by have : es.toList.length = es.size := rfl; omega
  have hkey : (es[j]'hj2).key = .string s := by
   have := congrArg (fun q => q[j]?) h2
   simp only [List.getElem?_map, hat, Option.map_some] at this
   rw [Array.getElem?_toList, Array.getElem?_eq_getElem hj2] at this
   simp only [Option.map_some, Option.some.injEq, Prod.mk.injEq] at this
   exact this.1
  refine ⟨_, by simp [Instr.mapUpdate, run_underlying hT, MapKept.run_getObj_map h1, hck, run_findKey hK hf, Array.getElem?_eq_getElem hj2, hkey, run_keyThatStays (d := .string) (k := .string s) (by simp [IsKey]), run_setObj_map _ h1, Result.andThen]; rfl, hgr _, by simp, ?_⟩
  refine ⟨_, _, (heap_set h1).1, ?_⟩
  rw [hp]
  simp only [List.map_set, ← h2]
  apply List.ext_getElem?
  intro i
  have ha : (es.modify j fun e => ({ key := Value.string s, val := v, born := e.born } : MapEntry)).toList[i]? = if j = i then (es[i]?).map (fun e => ({ key := Value.string s, val := v, born := e.born } : MapEntry)) else es[i]? := by
   rw [Array.getElem?_toList, Array.getElem?_modify]
  rw [List.getElem?_map, ha, List.getElem?_set]
  by_cases hi : j = i
  ·subst i
   simp [hj2, Array.getElem?_eq_getElem hj2]
  ·simp [hi, List.getElem?_map, Array.getElem?_toList]
end
end
section
structure EH where
 at_ : Int
 kind : Int
 word : Int
 type : Int
 name : ByteArray
 sign : ByteArray
inductive Exs where
 | nil : Exs
 | cons (h : EH) (kids rest : Exs) : Exs
structure SH where
 at_ : Int
 kind : Int
 name : ByteArray
 type : Int
 sign : ByteArray
inductive Sts where
 | nil : Sts
 | cons (h : SH) (exprs : Exs) (body els rest : Sts) : Sts
def Exs.len : Exs → Nat
 | .nil => 0
 | .cons _ _ r => r.len + 1
def Sts.len : Sts → Nat
 | .nil => 0
 | .cons _ _ _ _ r => r.len + 1
def Exs.sz : Exs → Nat
 | .nil => 0
 | .cons _ k r => k.sz + r.sz + 1
def Sts.sz : Sts → Nat
 | .nil => 0
 | .cons _ x b e r => x.sz + b.sz + e.sz + r.sz + 1
theorem Exs.len_le : ∀ l : Exs, l.len ≤ l.sz
 | .nil => Nat.le_refl _
 | .cons _ k r => by have := Exs.len_le r; simp only [Exs.len, Exs.sz]; omega
theorem Sts.len_le : ∀ l : Sts, l.len ≤ l.sz
 | .nil => Nat.le_refl _
 | .cons _ x b e r => by have := Sts.len_le r; simp only [Sts.len, Sts.sz]; omega
def markV (t : TypeId) : Value := if t = 46 then .string ⟨#[109, 97, 114, 107]⟩ else .int .i64 (-7)
def Zone (w : World) (o : Option (Nat → Prop)) (t : TypeId) (b off n len cap : Nat) : Prop :=
 ∀ Z, o = some Z → Z b ∧ off = 0 ∧ (∃ cs : Array Value, w.heap[b]? = some (.cells cs t (0, 0))) ∧ len < cap ∧ w.cell? ⟨b, len * n, none⟩ = some (markV t)
theorem Zone.mono {w w' : World} {o : Option (Nat → Prop)} {t : TypeId} {b off n len cap : Nat} (h : Zone w o t b off n len cap) (hb : Below w.heap.size w w') : Zone w' o t b off n len cap := fun B hB => by
 obtain ⟨h1, h2, ⟨cs, h3⟩, h4, h5⟩ := h B hB
 have hlt : b < w.heap.size := by
  rcases Nat.lt_or_ge b w.heap.size with q | q
  ·exact q
  ·rw [Array.getElem?_eq_none q] at h3; cases h3
 exact ⟨h1, h2, ⟨cs, (hb.block b hlt).trans h3⟩, h4, (hb.cell hlt).trans h5⟩
structure HeadE (w : World) (p : Bool) (h : EH) (b q : Nat) : Prop where
 c0 : ∃ t, w.cell? ⟨b, q, none⟩ = some (.int .i64 t) ∧ (p = true → t = h.at_)
 c1 : w.cell? ⟨b, q + 1, none⟩ = some (.int .u8 h.kind)
 c2 : w.cell? ⟨b, q + 2, none⟩ = some (.int .u32 h.word)
 c3 : w.cell? ⟨b, q + 3, none⟩ = some (.int .u8 h.type)
 c4 : w.cell? ⟨b, q + 4, none⟩ = some (.string h.name)
 c5 : w.cell? ⟨b, q + 5, none⟩ = some (.string h.sign)
theorem cell_on {w w' : World} {a : Addr} {v : Value} (h : w.cell? a = some v) (hb : Below w.heap.size w w') : w'.cell? a = some v := (hb.cell (World.block_lt_of_cell? w _ h)).trans h
theorem HeadE.mono {w w' : World} {p : Bool} {h : EH} {b q : Nat} (x : HeadE w p h b q) (hb : Below w.heap.size w w') : HeadE w' p h b q := by
 obtain ⟨⟨t, y0, y0'⟩, y1, y2, y3, y4, y5⟩ := x
 exact ⟨⟨t, cell_on y0 hb, y0'⟩, cell_on y1 hb, cell_on y2 hb, cell_on y3 hb, cell_on y4 hb, cell_on y5 hb⟩
structure HeadS (w : World) (p : Bool) (h : SH) (b q : Nat) : Prop where
 c0 : ∃ t, w.cell? ⟨b, q, none⟩ = some (.int .i64 t) ∧ (p = true → t = h.at_)
 c1 : w.cell? ⟨b, q + 1, none⟩ = some (.int .u8 h.kind)
 c2 : w.cell? ⟨b, q + 2, none⟩ = some (.string h.name)
 c3 : w.cell? ⟨b, q + 3, none⟩ = some (.int .u8 h.type)
 c4 : w.cell? ⟨b, q + 4, none⟩ = some (.string h.sign)
theorem HeadS.mono {w w' : World} {p : Bool} {h : SH} {b q : Nat} (x : HeadS w p h b q) (hb : Below w.heap.size w w') : HeadS w' p h b q := by
 obtain ⟨⟨t, y0, y0'⟩, y1, y2, y3, y4⟩ := x
 exact ⟨⟨t, cell_on y0 hb, y0'⟩, cell_on y1 hb, cell_on y2 hb, cell_on y3 hb, cell_on y4 hb⟩
def ExsIn (w : World) (p : Bool) (o : Option (Nat → Prop)) : Exs → Nat → Nat → Nat → Prop
 | .nil, _, _, _ => True
 | .cons h kids rest, b, off, k =>
  HeadE w p h b (off + k * 7) ∧
  (∃ ka kb koff kcap, w.cell? ⟨b, off + k * 7 + 6, none⟩ = some (.slice ka kids.len kcap) ∧ ((kids.len = 0 ∧ o = none) ∨ (ka = some ⟨kb, koff, none⟩ ∧ Zone w o 134 kb koff 7 kids.len kcap)) ∧ ExsIn w p o kids kb koff 0) ∧
  ExsIn w p o rest b off (k + 1)
def SlE (w : World) (p : Bool) (o : Option (Nat → Prop)) (l : Exs) (v : Value) : Prop :=
 ∃ ka kb koff kcap, v = .slice ka l.len kcap ∧ ((l.len = 0 ∧ o = none) ∨ (ka = some ⟨kb, koff, none⟩ ∧ Zone w o 134 kb koff 7 l.len kcap)) ∧ ExsIn w p o l kb koff 0
theorem ExsIn.cons {w : World} {p : Bool} {o : Option (Nat → Prop)} {h : EH} {kids rest : Exs} {b off k : Nat} (x : ExsIn w p o (.cons h kids rest) b off k) :
  HeadE w p h b (off + k * 7) ∧ (∃ v, w.cell? ⟨b, off + k * 7 + 6, none⟩ = some v ∧ SlE w p o kids v) ∧ ExsIn w p o rest b off (k + 1) := by
 obtain ⟨x1, ⟨ka, kb, koff, kcap, y1, y2, y3⟩, x3⟩ := x
 exact ⟨x1, ⟨_, y1, ka, kb, koff, kcap, rfl, y2, y3⟩, x3⟩
theorem ExsIn.mk {w : World} {p : Bool} {o : Option (Nat → Prop)} {h : EH} {kids rest : Exs} {b off k : Nat} {v : Value} (h1 : HeadE w p h b (off + k * 7)) (h2 : w.cell? ⟨b, off + k * 7 + 6, none⟩ = some v) (h3 : SlE w p o kids v) (h4 : ExsIn w p o rest b off (k + 1)) :
  ExsIn w p o (.cons h kids rest) b off k := by
 obtain ⟨ka, kb, koff, kcap, rfl, y2, y3⟩ := h3
 exact ⟨h1, ⟨ka, kb, koff, kcap, h2, y2, y3⟩, h4⟩
theorem ExsIn.mono {w w' : World} {p : Bool} {o : Option (Nat → Prop)} (hb : Below w.heap.size w w') : ∀ {l : Exs} {b off k : Nat}, ExsIn w p o l b off k → ExsIn w' p o l b off k
 | .nil, _, _, _, _ => trivial
 | .cons h kids rest, b, off, k, ⟨x1, ⟨ka, kb, koff, kcap, y1, y2, y3⟩, x3⟩ =>
  ⟨x1.mono hb, ⟨ka, kb, koff, kcap, cell_on y1 hb, y2.imp id (fun z => ⟨z.1, z.2.mono hb⟩), ExsIn.mono hb y3⟩, ExsIn.mono hb x3⟩
theorem SlE.mono {w w' : World} {p : Bool} {o : Option (Nat → Prop)} {l : Exs} {v : Value} (h : SlE w p o l v) (hb : Below w.heap.size w w') : SlE w' p o l v := by
 obtain ⟨ka, kb, koff, kcap, rfl, y2, y3⟩ := h
 exact ⟨ka, kb, koff, kcap, rfl, y2.imp id (fun z => ⟨z.1, z.2.mono hb⟩), y3.mono hb⟩
theorem HeadE.any {w : World} {p : Bool} {h : EH} {b q : Nat} (x : HeadE w p h b q) : HeadE w false h b q := by
 obtain ⟨⟨t, y0, y0'⟩, y1, y2, y3, y4, y5⟩ := x
 exact ⟨⟨t, y0, fun e => by cases e⟩, y1, y2, y3, y4, y5⟩
theorem Zone.any {w : World} {t : TypeId} {b off n len cap : Nat} : Zone w none t b off n len cap := fun _ h => by cases h
theorem ExsIn.any {w : World} {p : Bool} {o : Option (Nat → Prop)} : ∀ {l : Exs} {b off k : Nat}, ExsIn w p o l b off k → ExsIn w false o l b off k
 | .nil, _, _, _, _ => trivial
 | .cons h kids rest, b, off, k, ⟨x1, ⟨ka, kb, koff, kcap, y1, y2, y3⟩, x3⟩ => ⟨x1.any, ⟨ka, kb, koff, kcap, y1, y2, y3.any⟩, x3.any⟩
theorem ExsIn.free {w : World} {p : Bool} {o : Option (Nat → Prop)} : ∀ {l : Exs} {b off k : Nat}, ExsIn w p o l b off k → ExsIn w p none l b off k
 | .nil, _, _, _, _ => trivial
 | .cons h kids rest, b, off, k, ⟨x1, ⟨ka, kb, koff, kcap, y1, y2, y3⟩, x3⟩ => ⟨x1, ⟨ka, kb, koff, kcap, y1, y2.imp (fun z => ⟨z.1, rfl⟩) (fun z => ⟨z.1, Zone.any⟩), y3.free⟩, x3.free⟩
theorem SlE.any {w : World} {p : Bool} {o : Option (Nat → Prop)} {l : Exs} {v : Value} (h : SlE w p o l v) : SlE w false o l v := by
 obtain ⟨ka, kb, koff, kcap, rfl, y2, y3⟩ := h
 exact ⟨ka, kb, koff, kcap, rfl, y2, y3.any⟩
theorem SlE.free {w : World} {p : Bool} {o : Option (Nat → Prop)} {l : Exs} {v : Value} (h : SlE w p o l v) : SlE w p none l v := by
 obtain ⟨ka, kb, koff, kcap, rfl, y2, y3⟩ := h
 exact ⟨ka, kb, koff, kcap, rfl, y2.imp (fun z => ⟨z.1, rfl⟩) (fun z => ⟨z.1, Zone.any⟩), y3.free⟩
def StsIn (w : World) (p : Bool) (o : Option (Nat → Prop)) : Sts → Nat → Nat → Nat → Prop
 | .nil, _, _, _ => True
 | .cons h x body els rest, b, off, k =>
  HeadS w p h b (off + k * 8) ∧
  (∃ v, w.cell? ⟨b, off + k * 8 + 5, none⟩ = some v ∧ SlE w p o x v) ∧
  (∃ ka kb koff kcap, w.cell? ⟨b, off + k * 8 + 6, none⟩ = some (.slice ka body.len kcap) ∧ ((body.len = 0 ∧ o = none) ∨ (ka = some ⟨kb, koff, none⟩ ∧ Zone w o 109 kb koff 8 body.len kcap)) ∧ StsIn w p o body kb koff 0) ∧
  (∃ ka kb koff kcap, w.cell? ⟨b, off + k * 8 + 7, none⟩ = some (.slice ka els.len kcap) ∧ ((els.len = 0 ∧ o = none) ∨ (ka = some ⟨kb, koff, none⟩ ∧ Zone w o 109 kb koff 8 els.len kcap)) ∧ StsIn w p o els kb koff 0) ∧
  StsIn w p o rest b off (k + 1)
def SlS (w : World) (p : Bool) (o : Option (Nat → Prop)) (l : Sts) (v : Value) : Prop :=
 ∃ ka kb koff kcap, v = .slice ka l.len kcap ∧ ((l.len = 0 ∧ o = none) ∨ (ka = some ⟨kb, koff, none⟩ ∧ Zone w o 109 kb koff 8 l.len kcap)) ∧ StsIn w p o l kb koff 0
theorem StsIn.cons {w : World} {p : Bool} {o : Option (Nat → Prop)} {h : SH} {x : Exs} {body els rest : Sts} {b off k : Nat} (y : StsIn w p o (.cons h x body els rest) b off k) :
  HeadS w p h b (off + k * 8) ∧ (∃ v, w.cell? ⟨b, off + k * 8 + 5, none⟩ = some v ∧ SlE w p o x v) ∧ (∃ v, w.cell? ⟨b, off + k * 8 + 6, none⟩ = some v ∧ SlS w p o body v) ∧ (∃ v, w.cell? ⟨b, off + k * 8 + 7, none⟩ = some v ∧ SlS w p o els v) ∧ StsIn w p o rest b off (k + 1) := by
 obtain ⟨x1, x2, ⟨ka, kb, koff, kcap, y1, y2, y3⟩, ⟨ja, jb, joff, jcap, z1, z2, z3⟩, x4⟩ := y
 exact ⟨x1, x2, ⟨_, y1, ka, kb, koff, kcap, rfl, y2, y3⟩, ⟨_, z1, ja, jb, joff, jcap, rfl, z2, z3⟩, x4⟩
theorem StsIn.mk {w : World} {p : Bool} {o : Option (Nat → Prop)} {h : SH} {x : Exs} {body els rest : Sts} {b off k : Nat} {v5 v6 v7 : Value} (h1 : HeadS w p h b (off + k * 8)) (h2 : w.cell? ⟨b, off + k * 8 + 5, none⟩ = some v5) (h3 : SlE w p o x v5)
  (h4 : w.cell? ⟨b, off + k * 8 + 6, none⟩ = some v6) (h5 : SlS w p o body v6) (h6 : w.cell? ⟨b, off + k * 8 + 7, none⟩ = some v7) (h7 : SlS w p o els v7) (h8 : StsIn w p o rest b off (k + 1)) :
  StsIn w p o (.cons h x body els rest) b off k := by
 obtain ⟨ka, kb, koff, kcap, rfl, y2, y3⟩ := h5
 obtain ⟨ja, jb, joff, jcap, rfl, z2, z3⟩ := h7
 exact ⟨h1, ⟨v5, h2, h3⟩, ⟨ka, kb, koff, kcap, h4, y2, y3⟩, ⟨ja, jb, joff, jcap, h6, z2, z3⟩, h8⟩
theorem StsIn.mono {w w' : World} {p : Bool} {o : Option (Nat → Prop)} (hb : Below w.heap.size w w') : ∀ {l : Sts} {b off k : Nat}, StsIn w p o l b off k → StsIn w' p o l b off k
 | .nil, _, _, _, _ => trivial
 | .cons h x body els rest, b, off, k, ⟨x1, ⟨v, x2, x3⟩, ⟨ka, kb, koff, kcap, y1, y2, y3⟩, ⟨ja, jb, joff, jcap, z1, z2, z3⟩, x4⟩ =>
  ⟨x1.mono hb, ⟨v, cell_on x2 hb, x3.mono hb⟩, ⟨ka, kb, koff, kcap, cell_on y1 hb, y2.imp id (fun z => ⟨z.1, z.2.mono hb⟩), StsIn.mono hb y3⟩, ⟨ja, jb, joff, jcap, cell_on z1 hb, z2.imp id (fun z => ⟨z.1, z.2.mono hb⟩), StsIn.mono hb z3⟩, StsIn.mono hb x4⟩
theorem SlS.mono {w w' : World} {p : Bool} {o : Option (Nat → Prop)} {l : Sts} {v : Value} (h : SlS w p o l v) (hb : Below w.heap.size w w') : SlS w' p o l v := by
 obtain ⟨ka, kb, koff, kcap, rfl, y2, y3⟩ := h
 exact ⟨ka, kb, koff, kcap, rfl, y2.imp id (fun z => ⟨z.1, z.2.mono hb⟩), y3.mono hb⟩
theorem HeadS.any {w : World} {p : Bool} {h : SH} {b q : Nat} (x : HeadS w p h b q) : HeadS w false h b q := by
 obtain ⟨⟨t, y0, y0'⟩, y1, y2, y3, y4⟩ := x
 exact ⟨⟨t, y0, fun e => by cases e⟩, y1, y2, y3, y4⟩
theorem StsIn.any {w : World} {p : Bool} {o : Option (Nat → Prop)} : ∀ {l : Sts} {b off k : Nat}, StsIn w p o l b off k → StsIn w false o l b off k
 | .nil, _, _, _, _ => trivial
 | .cons h x body els rest, b, off, k, ⟨x1, ⟨v, x2, x3⟩, ⟨ka, kb, koff, kcap, y1, y2, y3⟩, ⟨ja, jb, joff, jcap, z1, z2, z3⟩, x4⟩ =>
  ⟨x1.any, ⟨v, x2, x3.any⟩, ⟨ka, kb, koff, kcap, y1, y2, y3.any⟩, ⟨ja, jb, joff, jcap, z1, z2, z3.any⟩, x4.any⟩
theorem StsIn.free {w : World} {p : Bool} {o : Option (Nat → Prop)} : ∀ {l : Sts} {b off k : Nat}, StsIn w p o l b off k → StsIn w p none l b off k
 | .nil, _, _, _, _ => trivial
 | .cons h x body els rest, b, off, k, ⟨x1, ⟨v, x2, x3⟩, ⟨ka, kb, koff, kcap, y1, y2, y3⟩, ⟨ja, jb, joff, jcap, z1, z2, z3⟩, x4⟩ =>
  ⟨x1, ⟨v, x2, x3.free⟩, ⟨ka, kb, koff, kcap, y1, y2.imp (fun z => ⟨z.1, rfl⟩) (fun z => ⟨z.1, Zone.any⟩), y3.free⟩, ⟨ja, jb, joff, jcap, z1, z2.imp (fun z => ⟨z.1, rfl⟩) (fun z => ⟨z.1, Zone.any⟩), z3.free⟩, x4.free⟩
theorem SlS.any {w : World} {p : Bool} {o : Option (Nat → Prop)} {l : Sts} {v : Value} (h : SlS w p o l v) : SlS w false o l v := by
 obtain ⟨ka, kb, koff, kcap, rfl, y2, y3⟩ := h
 exact ⟨ka, kb, koff, kcap, rfl, y2, y3.any⟩
theorem SlS.free {w : World} {p : Bool} {o : Option (Nat → Prop)} {l : Sts} {v : Value} (h : SlS w p o l v) : SlS w p none l v := by
 obtain ⟨ka, kb, koff, kcap, rfl, y2, y3⟩ := h
 exact ⟨ka, kb, koff, kcap, rfl, y2.imp (fun z => ⟨z.1, rfl⟩) (fun z => ⟨z.1, Zone.any⟩), y3.free⟩
/-! ### the same -/
end
section
abbrev aggE (t : Int) (h : EH) (v : Value) : Value := .agg #[.int .i64 t, .int .u8 h.kind, .int .u32 h.word, .int .u8 h.type, .string h.name, .string h.sign, v]
theorem below2 (w : World) (o o' : Obj) : Below w.heap.size w ((w.alloc o).alloc o') := ((Below.refl _ _).alloc (Nat.le_refl _) o).alloc (by simp) o'
theorem SlS.shape {w : World} {p : Bool} {o : Option (Nat → Prop)} {l : Sts} {v : Value} (h : SlS w p o l v) : ∃ a n c, v = .slice a n c := by
 obtain ⟨ka, kb, koff, kcap, rfl, -⟩ := h
 exact ⟨_, _, _, rfl⟩
theorem box_on {wr w2 : World} {c1 c2 : Array Value} {t1 t2 : TypeId} (h : Below ((wr.alloc (.cells c1 t1)).alloc (.cells c2 t2)).heap.size ((wr.alloc (.cells c1 t1)).alloc (.cells c2 t2)) w2) :
  (∀ i, w2.cell? ⟨wr.heap.size, i, none⟩ = c1[i]?) ∧ (∀ i, w2.cell? ⟨wr.heap.size + 1, i, none⟩ = c2[i]?) := by
 refine ⟨fun i => ?_, fun i => ?_⟩
 ·rw [h.cell (by simp; omega), World.cell?_alloc_past _ _ _ (by simp), World.cell?_alloc_at _ _ _ _ rfl]
 ·rw [h.cell (by simp), World.cell?_alloc_at _ _ _ _ (by simp)]
end
section
abbrev PW := ByteArray × Int
def PsIn (w : World) (l : List PW) (b off : Nat) : Prop := ∀ i (h : i < l.length), w.cell? ⟨b, off + i * 2, none⟩ = some (.string l[i].1) ∧ w.cell? ⟨b, off + i * 2 + 1, none⟩ = some (.int .u8 l[i].2)
def SlP (w : World) (l : List PW) (v : Value) : Prop := ∃ ka kb koff kcap, v = .slice ka l.length kcap ∧ (l.length = 0 ∨ ka = some ⟨kb, koff, none⟩) ∧ PsIn w l kb koff
theorem PsIn.mono {w w' : World} {l : List PW} {b off : Nat} (h : PsIn w l b off) (hb : Below w.heap.size w w') : PsIn w' l b off := fun i hi => ⟨cell_on (h i hi).1 hb, cell_on (h i hi).2 hb⟩
theorem SlP.mono {w w' : World} {l : List PW} {v : Value} (h : SlP w l v) (hb : Below w.heap.size w w') : SlP w' l v := by
 obtain ⟨ka, kb, koff, kcap, rfl, y2, y3⟩ := h
 exact ⟨ka, kb, koff, kcap, rfl, y2, y3.mono hb⟩
theorem SlP.shape {w : World} {l : List PW} {v : Value} (h : SlP w l v) : ∃ a n c, v = .slice a n c := by
 obtain ⟨ka, kb, koff, kcap, rfl, -⟩ := h
 exact ⟨_, _, _, rfl⟩
end
end Go.Proofs.YtlabadkfkbenoaaGreatDoor
