/- ScriptSame: walks. No condition. -/
import Derived.Test.YtecpkadjnecbiaaGreatDoorTreeO
namespace Go.Proofs.YtecpkadjnecbiaaGreatDoor
open Go.RowKit
set_option linter.unusedVariables false
set_option linter.unusedSimpArgs false

/-- append of a whole list to no list: exactly -/
theorem append_whole {P : Program} (w : World) (base : Nat) (t ty e : TypeId) (i : TypeInfo) (z : Value) (ht : P.underlying t = some (.slice e)) (hi : P.info? e = some i) (hz : i.zero = some z)
    (hzs : z.cells.size = i.size) (hsz : 0 < i.size) (ka : Option Addr) (m c : Nat) (news : List Value) (hl : news.length = m * i.size)
    (hnews : m = 0 ∨ ∃ a, ka = some a ∧ ∀ j u, news[j]? = some u → w.cell? (a.add j) = some u) (h1 : ∀ u ∈ news, u.oneCell' = true)
    (h63 : m ≤ maxLen) (hbytes : m * i.bytes ≤ 140737488355328) (hbase : base ≤ w.heap.size) :
    ∃ v' w', (Builtin.append_ #[t, t] ty #[.slice none 0 0, .slice ka m c]).run P w = .ok v' w' ∧ Appended w w' base e i.size (.slice none 0 0) v' 0 m [] news := by
  rcases hnews with rfl | ⟨a, rfl, hn⟩
  · have hn : news = [] := List.eq_nil_of_length_eq_zero (by simpa using hl)
    subst hn
    refine ⟨.slice none 0 0, w, ?_, ⟨World.ownsRow_nil w base e i.size, World.ownsRow_nil w base e i.size, grown_refl _ _, .inl rfl, by simp⟩⟩
    cases ka <;> simp [Builtin.append_, run_underlying ht, sizeOf, typeInfo, hi, Builtin.lenOf, Builtin.firstCells, loadCells, loadCellsFrom]
  · exact append_strong (P := P) w base t ty e i z ht hi hz hzs hsz _ 0 [] (World.ownsRow_nil w base e i.size) a m c news hl hn h1 (by omega) (by rw [Nat.zero_add]; exact hbytes) hbase
theorem wpList_append_whole {P : Program} {w : World} {ops : Array Oper} {rest : List Oper} {o : Oper} {a : Act} {Q : Exit → Act → World → Prop} (hgd : o.guard = none) (s x : Operand) (t : TypeId)
    (ho : o.op = .call { callee := .builtin .append, args := #[s, x], argTypes := #[t, t] })
    (base : Nat) (e : TypeId) (z : Value) (size bytes m : Nat) (ht : P.underlying t = some (.slice e)) (hinfo : (P.info? e).map (fun i => (i.zero, i.size, i.bytes)) = some (some z, size, bytes))
    (hzs : z.cells.size = size) (hsz : 0 < size)
    (ka : Option Addr) (c : Nat) (news : List Value) (hl : news.length = m * size) (hnews : m = 0 ∨ ∃ a, ka = some a ∧ ∀ j u, news[j]? = some u → w.cell? (a.add j) = some u) (h1 : ∀ u ∈ news, u.oneCell' = true)
    (h63 : m ≤ maxLen) (hbytes : m * bytes ≤ 140737488355328) (hbase : base ≤ w.heap.size)
    (hs : a.eval s = .slice none 0 0) (hx : a.eval x = .slice ka m c)
    (h : ∀ v' w', Appended w w' base e size (.slice none 0 0) v' 0 m [] news → wpList P ops Q rest (a.put o.dst v') w') :
    wpList P ops Q (o :: rest) a w := by
  obtain ⟨i, hi, hz0, hz1, hz2⟩ := info_parts hinfo
  subst hz1
  subst hz2
  refine wpList_plain hgd fun K hK => ?_
  obtain ⟨v', w', hr, hA⟩ := append_whole (P := P) w base t o.type e i z ht hi hz0 hzs hsz ka m c news hl hnews h1 h63 hbytes hbase
  unfold Oper.wp execOp
  simp only [ho, resolve, invoke, builtin, Sem.run_bind, Sem.run_pure, Result.andThen_ok, List.map_toArray, List.map_cons, List.map_nil, hs, hx, hr]
  exact hK _ _ (h v' w' hA)

/-- the cells of a parameter -/
def ParC (a : PW) (c : List Value) : Prop := c = [.string a.1, .int .u8 a.2]
theorem mem_flatten_one {n : Nat} {α : Type} {l : List α} {cs : List (List Value)} (h : ∀ c ∈ cs, ∀ u ∈ c, u.oneCell' = true) : ∀ u ∈ cs.flatten, u.oneCell' = true := by
  intro u hu
  obtain ⟨c, hc, hu⟩ := List.mem_flatten.1 hu
  exact h c hc u hu
/-- a slice of records, as cells -/
theorem SlR.cells {α : Type} {w : World} {o : Option (Nat → Prop)} {t : TypeId} {n : Nat} {R : α → Nat → Nat → Prop} {l : List α} {ka : Option Addr} {m cap : Nat} (hn : 0 < n) (h : SlR w o t n R l (.slice ka m cap)) (Rc : α → List Value → Prop)
    (hR : ∀ a b q, R a b q → ∃ c : List Value, c.length = n ∧ Rc a c ∧ (∀ u ∈ c, u.oneCell' = true) ∧ ∀ j u, c[j]? = some u → w.cell? ⟨b, q + j, none⟩ = some u) :
    ∃ cs : List (List Value), cs.length = l.length ∧ (∀ i (h : i < l.length) (h' : i < cs.length), cs[i].length = n ∧ Rc l[i] cs[i]) ∧ (∀ u ∈ cs.flatten, u.oneCell' = true) ∧ m = l.length ∧ cs.flatten.length = m * n ∧
      (m = 0 ∨ ∃ a, ka = some a ∧ ∀ j u, cs.flatten[j]? = some u → w.cell? (a.add j) = some u) := by
  obtain ⟨ka', kb, koff, kcap, hv, y2, y3⟩ := h
  cases hv
  have ch : ∀ i : Fin l.length, ∃ c : List Value, c.length = n ∧ Rc l[i] c ∧ (∀ u ∈ c, u.oneCell' = true) ∧ ∀ j u, c[j]? = some u → w.cell? ⟨kb, koff + i * n + j, none⟩ = some u := fun i => hR _ _ _ (y3 i i.2)
  have hcs : (List.ofFn fun i => (ch i).choose).length = l.length := by simp
  have hat : ∀ i (h : i < l.length) (h' : i < (List.ofFn fun i => (ch i).choose).length), (List.ofFn fun i => (ch i).choose)[i] = (ch ⟨i, h⟩).choose := fun i h h' => by simp
  have hlen : ∀ i (h' : i < (List.ofFn fun i => (ch i).choose).length), (List.ofFn fun i => (ch i).choose)[i].length = n := fun i h' => by
    rw [hat i (by omega) h']
    exact (ch ⟨i, by omega⟩).choose_spec.1
  have hfl := flatten_len hlen
  refine ⟨List.ofFn fun i => (ch i).choose, hcs, fun i h h' => ⟨hlen i h', ?_⟩, ?_, rfl, by rw [hfl, hcs], ?_⟩
  · rw [hat i h h']
    exact (ch ⟨i, h⟩).choose_spec.2.1
  · intro u hu
    obtain ⟨c, hc, hu⟩ := List.mem_flatten.1 hu
    obtain ⟨i, hi, rfl⟩ := List.getElem_of_mem hc
    rw [hat i (by omega) hi] at hu
    exact (ch ⟨i, by omega⟩).choose_spec.2.2.1 u hu
  · rcases y2 with h0 | ⟨rfl, -⟩
    · exact .inl h0.1
    · refine .inr ⟨_, rfl, fun j u hj => ?_⟩
      have hjl : j < (List.ofFn fun i => (ch i).choose).flatten.length := by
        rcases Nat.lt_or_ge j (List.ofFn fun i => (ch i).choose).flatten.length with h | h
        · exact h
        · rw [List.getElem?_eq_none h] at hj; cases hj
      rw [hfl, hcs] at hjl
      have hi : j / n < l.length := Nat.div_lt_of_lt_mul (by rw [Nat.mul_comm]; exact hjl)
      have hr : j % n < n := Nat.mod_lt _ hn
      have he : j / n * n + j % n = j := by rw [Nat.mul_comm]; exact Nat.div_add_mod j n
      have hf := flatten_at hlen (j / n) (by omega) (j % n) hr
      rw [he, hj, hat _ hi] at hf
      have := (ch ⟨j / n, hi⟩).choose_spec.2.2.2 (j % n) u hf.symm
      rw [Nat.add_assoc, he] at this
      rw [show (⟨kb, koff, none⟩ : Addr).add j = ⟨kb, koff + j, none⟩ by unfold Addr.add; split <;> simp_all]
      exact this
theorem ParR.of {w : World} {a : PW} {c : List Value} {g q : Nat} (h : ParC a c) (hc : ∀ j, j < 2 → w.cell? ⟨g, q + j, none⟩ = c[j]?) : ParR w a g q := by
  obtain rfl := h
  exact ⟨hc 0 (by omega), hc 1 (by omega)⟩
theorem ParR.cells {w : World} {a : PW} {b q : Nat} (h : ParR w a b q) : ∃ c : List Value, c.length = 2 ∧ ParC a c ∧ (∀ u ∈ c, u.oneCell' = true) ∧ ∀ j u, c[j]? = some u → w.cell? ⟨b, q + j, none⟩ = some u := by
  refine ⟨_, rfl, rfl, by simp [Value.oneCell'], fun j u hj => ?_⟩
  match j, hj with
  | 0, hj => simp at hj; subst hj; exact h.c0
  | 1, hj => simp at hj; subst hj; exact h.c1
  | j + 2, hj => simp at hj
theorem grown_weak' {w w' : World} (h : w.grownBy w' (Value.slice none 0 0).ownBlock) : w.grownBy w' none := h
theorem below_of_own {w w2 w3 : World} {e : TypeId} {n k m : Nat} {v v' : Value} {xs news : List Value} (hA : Appended w2 w3 w.heap.size e n v v' k m xs news) (h : w2.ownsRow w.heap.size e n v k xs) (hs : w.heap.size ≤ w2.heap.size) : Below w.heap.size w2 w3 :=
  (Below.refl w.heap.size w2).grown hA.grown hs (fun q hq => (h.lt q hq).1)
def CopyP (w : World) (l : List PW) (e : Ending) (w' : World) : Prop :=
  ∃ v', e = .returned v' ∧ SlPz w' (some fun b => w.heap.size ≤ b ∧ b < w'.heap.size) l v' ∧ w.grownBy w' none

set_option maxHeartbeats 1000000 in
set_option maxRecDepth 100000 in
theorem copy36 (l : List PW) (v : Value) (w : World) (hs : l.length ≤ 100000000) (hv : SlPz w none l v) :
    Calls Tryz.prog 11 #[v] w (CopyP w l) := by
  obtain ⟨ka, cap0, rfl⟩ := hv.shape
  obtain ⟨cs, h1, h2, h3, -, h5, h6⟩ := SlR.cells (by omega) hv ParC (fun a b q h => h.cells)
  have h12 := hid (And.intro h1 h2)
  have hkb : l.length ≤ 100000000 := hs
  obtain ⟨m, hm⟩ : ∃ m, m = l.length := ⟨_, rfl⟩
  rw [← hm] at h5 h6 hkb ⊢
  have hM := hid hm
  have H3 := hid h3
  have H5 := hid h5
  have H6 := hid h6
  clear hv h1 h2 hs hm h3 h5 h6
  go_enter Tryz.func11, Tryz.ntmps11
  go_wp2_with (first | (at_builtin; refine wpList_append_whole rfl _ _ 32 rfl w.heap.size 56 (.agg #[.string ⟨#[]⟩, .int .u8 0]) 2 24 m Tryz.underlying32 (by kernel_rfl) rfl (by decide) ka cap0 cs.flatten H5.out H6.out H3.out (by unfold maxLen; omega) (by omega) (Nat.le_refl _) rfl rfl ?_; intro v' w2 hA; have hA' := hid hA; have hO : Hid (w2.ownsRow w.heap.size 56 2 v' m cs.flatten) := hid (by have := hA.own; rwa [Nat.zero_add, List.nil_append] at this); have hsz := hA.grown.size; clear hA) | (at_builtin; go_must (refine wpList_append_str rfl _ _ 32 rfl w.heap.size 56 56 (.agg #[.string ⟨#[]⟩, .int .u8 0]) 2 24 1 Tryz.underlying32 (by kernel_rfl) rfl (by decide) _ m _ [.string ⟨#[109, 97, 114, 107]⟩, .int .u8 0] (0, 0) hO.out rfl (by simp [Value.oneCell']) (by unfold maxLen; omega) (by omega) hsz rfl rfl ?_); intro v'' w3 hA2; obtain ⟨g, cap, rfl, hg1, hg2, hg3, hg4⟩ := own_shape hA2.own (by omega); have hA2' := hid hA2; clear hA2))
  go_ret
  exact ⟨_, rfl, by rw [hM.out]; exact Bld.done (mark := [.string ⟨#[109, 97, 114, 107]⟩, .int .u8 0]) h12.out.1 h12.out.2 hA2'.out.own (by have := hM.out; omega) (by decide) rfl ⟨hg1, hg2⟩ (fun a c q h hc => ParR.of h hc), grown_of_below (((below_of_grown (grown_weak' hA'.out.grown)).trans ((below_of_own hA2'.out hO.out hsz))))⟩

end Go.Proofs.YtecpkadjnecbiaaGreatDoor
