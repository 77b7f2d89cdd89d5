/- Helper lemmas: one round of LittleNumbers. No condition. -/
import Derived.Laws.AppendOwnNone
import Derived.Test.YtdhicfolchpmhaaNumU
import Derived.Test.YtdhicfolchpmhaaNumTop
import Derived.Test.YtdhicfolchpmhaaHeldK
namespace Go.Proofs.Ytdhicfolchpmhaa
open Go.RowKit
set_option linter.unusedVariables false
set_option linter.unusedSimpArgs false

/-- Append of a slice of integers that lies somewhere, or is nil. -/
theorem wpList_append_ints {P : Program} {w : World} {ops : Array Oper} {rest : List Oper} {o : Oper} {a : Act} {Q : Exit → Act → World → Prop} (hgd : o.guard = none) (s x : Operand) (t : TypeId)
    (ho : o.op = .call { callee := .builtin .append, args := #[s, x], argTypes := #[t, t] })
    (base : Nat) (e : TypeId) (k : IntKind) (z : Value) (bytes : Nat) (ht : P.underlying t = some (.slice e)) (hinfo : (P.info? e).map (fun i => (i.zero, i.size, i.bytes)) = some (some z, 1, bytes))
    (hzs : z.cells.size = 1)
    (v : Value) (n : Nat) (xs : List Value) (hown : w.ownsRow base e 1 v n xs) (ao : Option Addr) (cap : Nat) (l : List Int) (hI : Ints k w ao l) (hno : ao = none → cap = 0)
    (h63 : n + l.length ≤ maxLen) (hbytes : (n + l.length) * bytes ≤ 140737488355328) (hbase : base ≤ w.heap.size)
    (hs : a.eval s = v) (hx : a.eval x = .slice ao l.length cap)
    (h : ∀ v' w', w'.ownsRow base e 1 v' (n + l.length) (xs ++ l.map (Value.int k)) → Below base w w' → wpList P ops Q rest (a.put o.dst v') w') :
    wpList P ops Q (o :: rest) a w := by
  cases ao with
  | none =>
    have hl : l = [] := by
      rcases hI.cell with h0 | ⟨b, off, h0, _⟩
      · exact List.eq_nil_of_length_eq_zero (by omega)
      · cases h0
    subst hl
    obtain ⟨i, hi, hz0, hz1, hz2⟩ := info_parts hinfo
    rw [hno rfl] at hx
    have hrun := run_append_owned_none (P := P) (w := w) base t o.type e i 1 ht hi v n xs hown
    refine wpList_plain hgd fun K hK => ?_
    unfold Oper.wp execOp
    simp only [ho, resolve, invoke, builtin, Sem.run_bind, Sem.run_pure, Result.andThen_ok, List.map_toArray, List.map_cons, List.map_nil, hs, hx]
    have hrun' : (Builtin.append_ #[t, t] o.type #[v, .slice none ([] : List Int).length 0]).run P w = .ok v w := hrun
    rw [hrun']
    exact hK _ _ (h v w (by simpa using hown) (Below.refl _ _))
  | some ad =>
    exact wpList_append_src hgd s x t ho base e z 1 bytes ht hinfo hzs (by decide) v n xs hown ad l.length cap (l.map (Value.int k)) (by simp) hI.news (ints_one k l) h63 hbytes hbase hs hx (fun v' w' h1 h2 _ => h v' w' h1 h2)

def heldL (vg vw : Value) (T : List Trip) : List RowS := ⟨vg, 23, 1, (T.flatMap Trip.got).length, (T.flatMap Trip.got).map (·.v)⟩ :: ⟨vw, 23, 1, (T.flatMap Trip.want).length, (T.flatMap Trip.want).map (·.v)⟩ :: T.flatMap Trip.all

/-- what holds within a round, till the lent list is written over -/
structure Op (w0 wr w : World) (r : NumRow) (vf vg vw : Value) (T : List Trip) : Prop where
  bel : Below w0.heap.size w0 w
  le : w0.heap.size ≤ wr.heap.size
  c0 : w.cell? ⟨wr.heap.size, 0, none⟩ = some (.int .i64 r.kind)
  c3 : w.cell? ⟨wr.heap.size, 3, none⟩ = some (.slice r.bo r.bytes.length r.bcap)
  c4 : w.cell? ⟨wr.heap.size, 4, none⟩ = some (.int .i64 r.at_)
  hb : Ints .u8 w0 r.bo r.bytes
  full : w.ownsRow (wr.heap.size + 1) 5 1 vf (r.bytes.length + 64) ((lentL r.bytes).map (Value.int .u8))
  held : Held w w0.heap.size vg vw T
  apf : ∀ x ∈ heldL vg vw T, x.v.ownBlock = none ∨ x.v.ownBlock ≠ vf.ownBlock

theorem Op.size {w0 wr w : World} {r : NumRow} {vf vg vw : Value} {T : List Trip} (h : Op w0 wr w r vf vg vw T) : wr.heap.size < w.heap.size := World.block_lt_of_cell? w _ h.c0
theorem Op.below {w0 wr w w' : World} {r : NumRow} {vf vg vw : Value} {T : List Trip} (h : Op w0 wr w r vf vg vw T) (hb : Below w.heap.size w w') : Op w0 wr w' r vf vg vw T :=
  ⟨h.bel.trans (hb.mono h.bel.size), h.le, (hb.cell h.size).trans h.c0, (hb.cell h.size).trans h.c3, (hb.cell h.size).trans h.c4, h.hb, own_mono h.full hb (Nat.le_refl _), h.held.below hb, h.apf⟩

/-- the lent list: what lies there, whole and cut -/
theorem Op.lies {w0 wr w : World} {r : NumRow} {vg vw : Value} {T : List Trip} {g n2 c : Nat} (h : Op w0 wr w r (.slice (some ⟨g, 0, none⟩) n2 c) vg vw T) : Ints .u8 w (some ⟨g, 0, none⟩) (lentL r.bytes) ∧ Ints .u8 w (some ⟨g, 0, none⟩) r.bytes ∧ Ints .u8 w r.bo r.bytes := by
  have h1 := ints_of_own h.full (fun x hx => by
    rcases List.mem_append.1 hx with h1 | h1
    · exact h.hb.wf x h1
    · obtain ⟨i, _, rfl⟩ := List.mem_map.1 h1
      exact wf_u8.2 (markB_bd _ _))
  obtain ⟨ao, c', hv, hI, _⟩ := h1
  simp only [Value.slice.injEq] at hv
  obtain ⟨rfl, _, _⟩ := hv
  refine ⟨hI, ?_, h.hb.mono h.bel⟩
  have := hI.take r.bytes.length
  unfold lentL at this
  rwa [List.take_left] at this

/-- two appends, of what was made behind the world wm -/
theorem Op.two {w0 wr wm w w1 w2 : World} {r : NumRow} {vf vg vw vg' vw' : Value} {T : List Trip} (h : Op w0 wr w r vf vg vw T) (hs : Held wr w0.heap.size vg vw T) (hm : wr.heap.size ≤ wm.heap.size) (hfm : ∀ g, vf.ownBlock = some g → g < wm.heap.size) (hmw : wm.heap.size ≤ w.heap.size) (t : Trip)
    (hok : rowOk t.g1 t.l ∧ rowOk t.g2 t.l ∧ rowOk t.r t.l ∧ Byt t.l)
    (o1 : w.ownsRow wm.heap.size t.g1.e t.g1.size t.g1.v t.g1.n t.g1.xs) (o2 : w.ownsRow wm.heap.size t.g2.e t.g2.size t.g2.v t.g2.n t.g2.xs) (o3 : w.ownsRow wm.heap.size t.r.e t.r.size t.r.v t.r.n t.r.xs)
    (a12 : t.g1.apart t.g2) (a13 : t.g1.apart t.r) (a23 : t.g2.apart t.r)
    (hA1 : Appended w w1 w0.heap.size 23 1 vg vg' (T.flatMap Trip.got).length 2 ((T.flatMap Trip.got).map (·.v)) [t.g1.v, t.g2.v])
    (hA2 : Appended w1 w2 w0.heap.size 23 1 vw vw' (T.flatMap Trip.want).length 2 ((T.flatMap Trip.want).map (·.v)) [t.r.v, t.r.v]) : Op w0 wr w2 r vf vg' vw' (T ++ [t]) := by
  have hB : w0.heap.size ≤ wm.heap.size := Nat.le_trans h.le hm
  have hgo := hs.sep.own 0 (by simp)
  have hwo := hs.sep.own 1 (by simp)
  simp only [List.getElem_cons_zero, List.getElem_cons_succ] at hgo hwo
  have gb : ∀ q, vg.ownBlock = some q → w0.heap.size ≤ q ∧ q < wr.heap.size := fun q hq => hgo.lt q hq
  have wb : ∀ q, vw.ownBlock = some q → w0.heap.size ≤ q ∧ q < wr.heap.size := fun q hq => hwo.lt q hq
  have p1 : some wr.heap.size ≠ vg.ownBlock := fun e => by have := (gb _ e.symm).2; omega
  have p2 : some wr.heap.size ≠ vw.ownBlock := fun e => by have := (wb _ e.symm).2; omega
  have hheld : Held w2 w0.heap.size vg' vw' (T ++ [t]) := by
    have hs' : Held wr w0.heap.size vg vw T := hs
    exact Held.push hs' h.held t hok (own_base o1 hB) (own_base o2 hB) (own_base o3 hB) a12 a13 a23
      (fun g hg => Nat.le_trans hm ((o1.lt g hg).1)) (fun g hg => Nat.le_trans hm ((o2.lt g hg).1)) (fun g hg => Nat.le_trans hm ((o3.lt g hg).1)) hA1 hA2
  have fb : ∀ q, vf.ownBlock = some q → wr.heap.size + 1 ≤ q ∧ q < w.heap.size := fun q hq => h.full.lt q hq
  have f1 : vf.ownBlock = none ∨ vf.ownBlock ≠ vg.ownBlock := by
    cases hq : vf.ownBlock with
    | none => exact .inl rfl
    | some q => exact .inr (fun e => by have := fb q hq; have := gb q e.symm; omega)
  have f2 : vf.ownBlock = none ∨ vf.ownBlock ≠ vw.ownBlock := by
    cases hq : vf.ownBlock with
    | none => exact .inl rfl
    | some q => exact .inr (fun e => by have := fb q hq; have := wb q e.symm; omega)
  have hb1 : Below w0.heap.size w w1 := (Below.refl _ _).grown hA1.grown h.bel.size (fun q hq => (gb q hq).1)
  have hb2 : Below w0.heap.size w w2 := hb1.grown hA2.grown (Nat.le_trans h.bel.size hb1.size) (fun q hq => (wb q hq).1)
  have far : ∀ (x : Value), (∀ q, x.ownBlock = some q → wm.heap.size ≤ q) → (x.ownBlock = none ∨ x.ownBlock ≠ vf.ownBlock) := fun x hx => by
    cases hq : x.ownBlock with
    | none => exact .inl rfl
    | some q => exact .inr (fun e => by have := hx q hq; have := hfm q e.symm; omega)
  have ap1 := h.apf _ (List.mem_cons_self)
  have ap2 := h.apf _ (List.mem_cons_of_mem _ List.mem_cons_self)
  simp only at ap1 ap2
  refine ⟨h.bel.trans hb2, h.le, hA2.grown.cell (hA1.grown.cell h.c0 p1) p2, hA2.grown.cell (hA1.grown.cell h.c3 p1) p2, hA2.grown.cell (hA1.grown.cell h.c4 p1) p2, h.hb, (h.full.kept hA1.grown f1).kept hA2.grown f2, hheld, fun x hx => ?_⟩
  have hw1 : w.heap.size ≤ w1.heap.size := hA1.grown.size
  unfold heldL at hx
  rcases List.mem_cons.1 hx with rfl | hx
  · rcases hA1.place with hp | ⟨q, hp, hq, _⟩
    · simp only [hp]; exact ap1
    · exact far _ (fun q' hq' => by simp only [hp, Option.some.injEq] at hq'; omega)
  rcases List.mem_cons.1 hx with rfl | hx
  · rcases hA2.place with hp | ⟨q, hp, hq, _⟩
    · simp only [hp]; exact ap2
    · exact far _ (fun q' hq' => by simp only [hp, Option.some.injEq] at hq'; omega)
  rw [List.flatMap_append, List.mem_append] at hx
  rcases hx with hx | hx
  · exact h.apf x (by unfold heldL; exact List.mem_cons_of_mem _ (List.mem_cons_of_mem _ hx))
  · simp only [List.flatMap_cons, List.flatMap_nil, List.append_nil, Trip.all, List.mem_cons, List.not_mem_nil, or_false] at hx
    rcases hx with rfl | rfl | rfl
    · exact far _ (fun q hq => (o1.lt q hq).1)
    · exact far _ (fun q hq => (o2.lt q hq).1)
    · exact far _ (fun q hq => (o3.lt q hq).1)

/-- and behind the writing over -/
structure Op2 (w0 wr w : World) (r : NumRow) (vl vg vw : Value) (M : List Int) (T : List Trip) : Prop where
  bel : Below w0.heap.size w0 w
  c4 : w.cell? ⟨wr.heap.size, 4, none⟩ = some (.int .i64 r.at_)
  list : w.ownsRow (wr.heap.size + 1) 5 1 vl r.bytes.length (M.map (Value.int .u8))
  held : Held w w0.heap.size vg vw T

theorem Op2.below {w0 wr w w' : World} {r : NumRow} {vl vg vw : Value} {M : List Int} {T : List Trip} (h : Op2 w0 wr w r vl vg vw M T) (hb : Below w.heap.size w w') : Op2 w0 wr w' r vl vg vw M T :=
  ⟨h.bel.trans (hb.mono h.bel.size), (hb.cell (World.block_lt_of_cell? w _ h.c4)).trans h.c4, own_mono h.list hb (Nat.le_refl _), h.held.below hb⟩
theorem Op2.drewN {w0 wr w : World} {r : NumRow} {vl vg vw : Value} {M : List Int} {T : List Trip} (h : Op2 w0 wr w r vl vg vw M T) (q : Nat) : Op2 w0 wr (w.drewN q) r vl vg vw M T :=
  h.below (below_drewN' (Below.refl _ _) q)
theorem Op.drewN {w0 wr w : World} {r : NumRow} {vf vg vw : Value} {T : List Trip} (h : Op w0 wr w r vf vg vw T) (q : Nat) : Op w0 wr (w.drewN q) r vf vg vw T :=
  h.below (below_drewN' (Below.refl _ _) q)

theorem Op.over {w0 wr w w' : World} {r : NumRow} {vg vw : Value} {T : List Trip} {g n2 c c' : Nat} {M : List Int} (h : Op w0 wr w r (.slice (some ⟨g, 0, none⟩) n2 c') vg vw T) (hg : w.grownBy w' (some g))
    (ho : w'.ownsRow (wr.heap.size + 1) 5 1 (.slice (some ⟨g, 0, none⟩) r.bytes.length c) r.bytes.length (M.map (Value.int .u8))) : Op2 w0 wr w' r (.slice (some ⟨g, 0, none⟩) r.bytes.length c) vg vw M T := by
  have hgb := h.full.lt g rfl
  refine ⟨h.bel.grown hg h.bel.size (fun q hq => ?_), hg.cell h.c4 (fun e => ?_), ho, ⟨h.held.sep.kept hg (fun i hi => ?_), h.held.each⟩⟩
  · simp only [Option.some.injEq] at hq
    have := h.le
    omega
  · simp only [Option.some.injEq] at e
    omega
  · exact h.apf _ (List.getElem_mem hi)

theorem Op.start {w0 wr wl w : World} {r : NumRow} {vf vg vw : Value} {T : List Trip} (hs : Held wr w0.heap.size vg vw T) (hbel : Below w0.heap.size w0 wr) (hb : Below wr.heap.size wr w)
    (c0 : w.cell? ⟨wr.heap.size, 0, none⟩ = some (.int .i64 r.kind)) (c3 : w.cell? ⟨wr.heap.size, 3, none⟩ = some (.slice r.bo r.bytes.length r.bcap)) (c4 : w.cell? ⟨wr.heap.size, 4, none⟩ = some (.int .i64 r.at_))
    (hbb : Ints .u8 w0 r.bo r.bytes) (full : w.ownsRow (wr.heap.size + 1) 5 1 vf (r.bytes.length + 64) ((lentL r.bytes).map (Value.int .u8))) : Op w0 wr w r vf vg vw T := by
  refine ⟨hbel.trans (hb.mono hbel.size), hbel.size, c0, c3, c4, hbb, full, hs.below hb, fun x hx => ?_⟩
  obtain ⟨i, hi, rfl⟩ := List.getElem_of_mem hx
  cases hq : (heldL vg vw T)[i].v.ownBlock with
  | none => exact .inl rfl
  | some q =>
    refine .inr (fun e => ?_)
    have h1 := (hs.sep.own i hi).lt q hq
    have h2 := full.lt q e.symm
    omega

theorem got_len (T : List Trip) : (T.flatMap Trip.got).length = 2 * T.length := by
  induction T with
  | nil => rfl
  | cons t T ih => simp only [List.flatMap_cons, List.length_append, ih, Trip.got, List.length_cons, List.length_nil]; omega
theorem want_len (T : List Trip) : (T.flatMap Trip.want).length = 2 * T.length := by
  induction T with
  | nil => rfl
  | cons t T ih => simp only [List.flatMap_cons, List.length_append, ih, Trip.want, List.length_cons, List.length_nil]; omega
def Trip.three (t : Trip) : List (RowS × RowS × List Int) := [(t.g1, t.r, t.l), (t.g2, t.r, t.l)]
theorem three_got (T : List Trip) : (T.flatMap Trip.three).map (·.1) = T.flatMap Trip.got := by
  induction T with
  | nil => rfl
  | cons t T ih => simp only [List.flatMap_cons, List.map_append, ih]; rfl
theorem three_want (T : List Trip) : (T.flatMap Trip.three).map (·.2.1) = T.flatMap Trip.want := by
  induction T with
  | nil => rfl
  | cons t T ih => simp only [List.flatMap_cons, List.map_append, ih]; rfl
theorem got_sub (T : List Trip) : (T.flatMap Trip.got).Sublist (T.flatMap Trip.all) := by
  induction T with
  | nil => exact List.Sublist.refl _
  | cons t T ih =>
    simp only [List.flatMap_cons]
    refine List.Sublist.append ?_ ih
    exact ((List.Sublist.refl _).cons_cons _).cons_cons _ |>.trans (List.Sublist.cons_cons _ (List.Sublist.cons_cons _ (List.nil_sublist _)))

theorem Held.final {w : World} {B : Nat} {vg vw : Value} {T : List Trip} (h : Held w B vg vw T) (hT : T ≠ []) (hB : B ≤ w.heap.size) (hlen : T.length ≤ 2097152) :
    Calls Try.prog 38 #[vg, vw] w fun e w' => e = .returned (.bool true) ∧ Below B w w' := by
  have h0 : 0 < T.length := List.length_pos_iff.2 hT
  have o0 := h.sep.own 0 (by simp)
  have o1 := h.sep.own 1 (by simp)
  simp only [List.getElem_cons_zero, List.getElem_cons_succ] at o0 o1
  obtain ⟨lb, cap, hv, _, hlb, _⟩ := own_shape o0 (by rw [got_len]; omega)
  obtain ⟨mb, cap2, hv2, _⟩ := own_shape o1 (by rw [want_len]; omega)
  subst hv hv2
  have hP : (T.flatMap Trip.three).length = (T.flatMap Trip.got).length := by rw [← three_got, List.length_map]
  have hgl := got_len T
  have hwl := want_len T
  have ok : ∀ x ∈ T.flatMap Trip.three, rowOk x.1 x.2.2 ∧ rowOk x.2.1 x.2.2 ∧ Byt x.2.2 ∧ x.2.1 ∈ T.flatMap Trip.all := fun x hx => by
    obtain ⟨t, ht, hx⟩ := List.mem_flatMap.1 hx
    have := h.each t ht
    have hr : t.r ∈ T.flatMap Trip.all := List.mem_flatMap.2 ⟨t, ht, by simp [Trip.all]⟩
    simp only [Trip.three, List.mem_cons, List.not_mem_nil, or_false] at hx
    rcases hx with rfl | rfl
    · exact ⟨this.1, this.2.2.1, this.2.2.2, hr⟩
    · exact ⟨this.2.1, this.2.2.1, this.2.2.2, hr⟩
  have gi : ∀ i (hi : i < (T.flatMap Trip.got).length), (T.flatMap Trip.got)[i] = ((T.flatMap Trip.three)[i]'(by omega)).1 := fun i hi => by
    have : (T.flatMap Trip.got)[i]? = ((T.flatMap Trip.three).map (·.1))[i]? := by rw [three_got]
    rw [List.getElem?_eq_getElem hi, List.getElem?_map, List.getElem?_eq_getElem (by omega)] at this
    simpa using this
  have wi : ∀ i (hi : i < (T.flatMap Trip.want).length), (T.flatMap Trip.want)[i] = ((T.flatMap Trip.three)[i]'(by omega)).2.1 := fun i hi => by
    have : (T.flatMap Trip.want)[i]? = ((T.flatMap Trip.three).map (·.2.1))[i]? := by rw [three_want]
    rw [List.getElem?_eq_getElem hi, List.getElem?_map, List.getElem?_eq_getElem (by omega)] at this
    simpa using this
  have xi : ∀ i (hi : i < (T.flatMap Trip.got).length), ((T.flatMap Trip.three).map (·.2.2)).getD i [] = ((T.flatMap Trip.three)[i]'(by omega)).2.2 := fun i hi => by
    simp [List.getD, List.getElem?_eq_getElem (show i < (T.flatMap Trip.three).length by omega)]
  have e2 : (T.flatMap Trip.want).length = (T.flatMap Trip.got).length := by omega
  rw [e2]
  have hsub : Sep w B (T.flatMap Trip.got) := h.sep.sub ((got_sub T).trans ((List.Sublist.cons _ (List.Sublist.refl _)).cons _))
  refine keep38 w B lb 0 cap mb 0 cap2 (T.flatMap Trip.got) ((T.flatMap Trip.three).map (·.2.2)) ⟨hsub, rfl, fun k hk => ?_, fun k hk => ?_⟩ hB hlb (by omega) (fun i hi => ?_) (fun i hi => ?_) (fun i hi => ?_) (fun i hi => ?_)
  · have := o0.cellAt k (by omega)
    rw [Nat.zero_add, this]
    simp [List.getElem?_eq_getElem hk]
  · have hmem : (T.flatMap Trip.got)[k] ∈ T.flatMap Trip.all := (got_sub T).subset (List.getElem_mem hk)
    obtain ⟨j, hj, hje⟩ := List.getElem_of_mem hmem
    have := h.sep.apart 0 (j + 2) (by simp) (by simpa using hj) (by omega)
    simp only [List.getElem_cons_zero, List.getElem_cons_succ, RowS.apart, Value.ownBlock] at this
    rw [hje] at this
    rcases this with h1 | h1
    · cases h1
    · exact fun e => h1 e.symm
  · rw [gi i hi]
    have := (ok _ (List.getElem_mem (show i < (T.flatMap Trip.three).length by omega))).1
    exact this.2.2.2.1
  · rw [gi i hi]
    have := (ok _ (List.getElem_mem (show i < (T.flatMap Trip.three).length by omega))).1
    exact ⟨this.1, this.2.1⟩
  · rw [gi i hi, xi i hi]
    have := (ok _ (List.getElem_mem (show i < (T.flatMap Trip.three).length by omega))).1
    exact this.2.2.2.2
  · rw [xi i hi]
    obtain ⟨_, hr, hby, hmem⟩ := ok _ (List.getElem_mem (show i < (T.flatMap Trip.three).length by omega))
    obtain ⟨j, hj, hje⟩ := List.getElem_of_mem hmem
    have ho := h.sep.own (j + 2) (by simpa using hj)
    simp only [List.getElem_cons_succ, hje] at ho
    have hce := o1.cellAt i (by omega)
    rw [List.getElem?_map, List.getElem?_eq_getElem (by omega), Option.map_some, wi i (by omega)] at hce
    generalize (T.flatMap Trip.three)[i]'(by omega) = x at *
    rw [hr.1, hr.2.1, hr.2.2.2.2] at ho
    obtain ⟨ao, c, hv, hI, -⟩ := ints_of_own ho (ints_of_byt hby)
    rw [hv] at hce
    exact ⟨ao, c, by rw [Nat.zero_add]; exact hce, hI⟩

end Go.Proofs.Ytdhicfolchpmhaa
