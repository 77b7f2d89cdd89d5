/- A map ranged over while a row of its entries grows. No condition. -/
import Derived.Test.YtmjholcpajfldaaGreatDoorHostMg
import Derived.Maps.RangeRun
namespace Go.Proofs.YtmjholcpajfldaaGreatDoor
open Go.RowKit
set_option linter.unusedVariables false
set_option linter.unusedSimpArgs false

set_option maxRecDepth 100000
open Go.ChangeMaps (setBlock)

/-- an entry's name and word -/
def ent (e : MapEntry) : ByteArray × Int := (match e.key with | .string s => s | _ => ⟨#[]⟩, match e.val with | .int _ x => x | _ => 0)
theorem ent_at {es : List MapEntry} {l : NW} (h : es.map (fun e => (e.key, e.val)) = (vsA l).map fun x => (Value.string x.1, x.2)) : es.map ent = l ∧ ∀ e ∈ es, e.key = .string (ent e).1 ∧ e.val = .int .u32 (ent e).2 := by
  induction l generalizing es with
  | nil =>
    have : es = [] := by simpa [vsA] using h
    subst this
    exact ⟨rfl, fun e he => by cases he⟩
  | cons x r ih =>
    cases es with
    | nil => simp [vsA] at h
    | cons e es =>
      simp only [vsA, List.map_cons, List.cons.injEq, Prod.mk.injEq] at h
      obtain ⟨⟨h1, h2⟩, h3⟩ := h
      obtain ⟨i1, i2⟩ := ih (es := es) h3
      have he : ent e = x := by unfold ent; rw [h1, h2]
      refine ⟨by rw [List.map_cons, i1, he], fun y hy => ?_⟩
      rcases List.mem_cons.1 hy with rfl | hy
      · rw [he]; exact ⟨h1, h2⟩
      · exact i2 y hy
theorem grown_block (w : World) (r : Nat) (o : Obj) : w.grownBy (setBlock w r o) (some r) :=
  ⟨rfl, rfl, rfl, by simp [setBlock], fun i hi hn => by
    have : r ≠ i := fun q => hn (by rw [q])
    simp [setBlock, this]⟩
theorem block_new {w : World} {r : Nat} (h : r < w.heap.size) (o : Obj) : (setBlock w r o).heap[r]? = some o := by
  simp [setBlock, h]
/-- what stands while a map is ranged over -/
structure Ri (w wr : World) (r mb c q2 : Nat) (es : Array MapEntry) (clk : Nat) (cvv v : Value) (con : List UInt8) (sd ck : Int) (T : List MapEntry) : Prop where
  it : wr.heap[r]? = some (.mapIter (some mb) clk (T.map (·.born)).toArray clk)
  mp : wr.heap[mb]? = some (.map es clk)
  bx : Bx wr c #[cvv, v, .int .u64 sd, .int .u32 ck] 45
  rs : Bx wr q2 #[.slice none 0 0, .slice none 0 0, .int .u64 0, .int .u32 0] 45
  oc : wr.ownsRow w.heap.size 5 1 cvv con.length (bv con)
  ov : wr.ownsRow w.heap.size 77 2 v T.length (prs (T.map ent))
  sub : ∀ e ∈ T, e ∈ es.toList
  nd : (T.map (·.born)).Nodup
  bel : Below w.heap.size w wr
  lo : w.heap.size ≤ r ∧ w.heap.size ≤ c
theorem own_ne_block {w : World} {B e size n r : Nat} {v : Value} {xs : List Value} (h : w.ownsRow B e size v n xs) {o : Obj} (hb : w.heap[r]? = some o) (hne : ∀ cs t f, o ≠ .cells cs t f) : v.ownBlock ≠ some r := fun he => by
  rcases h.2 with ⟨rfl, -⟩ | ⟨g, cp, cur, rfl, hg, hh, q⟩
  · cases he
  · simp only [Value.ownBlock, Option.some.injEq] at he
    rw [he, hb] at hh
    simp only [Option.some.injEq] at hh
    exact hne _ _ _ hh
theorem Ri.ne {w wr : World} {r mb c q2 : Nat} {es : Array MapEntry} {clk : Nat} {cvv v : Value} {con : List UInt8} {sd ck : Int} {T : List MapEntry} (h : Ri w wr r mb c q2 es clk cvv v con sd ck T) :
    r ≠ mb ∧ r ≠ c ∧ r ≠ q2 ∧ cvv.ownBlock ≠ some r ∧ v.ownBlock ≠ some r := by
  refine ⟨fun e => ?_, fun e => ?_, fun e => ?_, own_ne_block h.oc h.it (fun _ _ _ => by simp), own_ne_block h.ov h.it (fun _ _ _ => by simp)⟩
  · have h1 := h.it; have h2 := h.mp; rw [e, h2] at h1; cases h1
  · have h1 := h.it; have h2 := h.bx; unfold Bx at h2; rw [e, h2] at h1; cases h1
  · have h1 := h.it; have h2 := h.rs; unfold Bx at h2; rw [e, h2] at h1; cases h1
/-- one more entry has been handed out -/
theorem Ri.step {w wr w1 : World} {r mb c q2 : Nat} {es : Array MapEntry} {clk : Nat} {cvv v : Value} {con : List UInt8} {sd ck : Int} {T : List MapEntry} (h : Ri w wr r mb c q2 es clk cvv v con sd ck T) (hw : w1 = wr ∨ w1 = wr.drew) (e : MapEntry) :
    let w2 := setBlock w1 r (.mapIter (some mb) clk ((T.map (·.born)).toArray.push e.born) clk)
    w2.heap[r]? = some (.mapIter (some mb) clk ((T ++ [e]).map (·.born)).toArray clk) ∧ w2.heap[mb]? = some (.map es clk) ∧ Bx w2 c #[cvv, v, .int .u64 sd, .int .u32 ck] 45 ∧ Bx w2 q2 #[.slice none 0 0, .slice none 0 0, .int .u64 0, .int .u32 0] 45 ∧
      w2.ownsRow w.heap.size 5 1 cvv con.length (bv con) ∧ w2.ownsRow w.heap.size 77 2 v T.length (prs (T.map ent)) ∧ Below w.heap.size w w2 := by
  have hn := h.ne
  have hg : wr.grownBy (setBlock w1 r (.mapIter (some mb) clk ((T.map (·.born)).toArray.push e.born) clk)) (some r) := by
    rcases hw with rfl | rfl
    · exact grown_block _ _ _
    · exact grown_trans (grownBy_drew wr (some r)) (grown_block _ _ _)
  have hlt : r < w1.heap.size := by rcases hw with rfl | rfl <;> exact lt_of_block h.it
  refine ⟨?_, (hg.block mb (lt_of_block h.mp) (fun q => hn.1 (by simpa using q.symm))).trans h.mp, h.bx.on hg (fun q => hn.2.1 (by simpa using q.symm)), h.rs.on hg (fun q => hn.2.2.1 (by simpa using q.symm)), h.oc.kept hg (.inr hn.2.2.2.1), h.ov.kept hg (.inr hn.2.2.2.2), h.bel.grown hg h.bel.size (fun k hk => by simp only [Option.some.injEq] at hk; have := h.lo; omega)⟩
  rw [block_new hlt]
  simp
theorem inj_born : ∀ {l : List MapEntry}, (l.map (·.born)).Nodup → ∀ a ∈ l, ∀ b ∈ l, a.born = b.born → a = b
  | [], _, a, ha, _, _, _ => by cases ha
  | x :: r, h, a, ha, b, hb, e => by
    rw [List.map_cons, List.nodup_cons] at h
    rcases List.mem_cons.1 ha with ha2 | ha2
    · rcases List.mem_cons.1 hb with hb2 | hb2
      · rw [ha2, hb2]
      · exact absurd (show x.born ∈ _ from (by rw [← ha2, e]; exact List.mem_map_of_mem hb2)) h.1
    · rcases List.mem_cons.1 hb with hb2 | hb2
      · exact absurd (show x.born ∈ _ from (by rw [← hb2, ← e]; exact List.mem_map_of_mem ha2)) h.1
      · exact inj_born h.2 a ha2 b hb2 e
theorem nodup_born {l : List MapEntry} (h : (l.map (·.born)).Nodup) : l.Nodup := by
  induction l with
  | nil => exact List.nodup_nil
  | cons x r ih =>
    rw [List.map_cons, List.nodup_cons] at h
    rw [List.nodup_cons]
    exact ⟨fun q => h.1 (List.mem_map_of_mem q), ih h.2⟩
/-- all entries are taken -/
theorem Ri.all {w wr : World} {r mb c q2 : Nat} {es : Array MapEntry} {clk : Nat} {cvv v : Value} {con : List UInt8} {sd ck : Int} {T : List MapEntry} (h : Ri w wr r mb c q2 es clk cvv v con sd ck T) (hn : (es.toList.map (·.born)).Nodup) (h0 : (leftOf es (T.map (·.born)).toArray).size = 0) : T.Perm es.toList := by
  rw [List.perm_ext_iff_of_nodup (nodup_born h.nd) (nodup_born hn)]
  intro e
  refine ⟨h.sub e, fun he => ?_⟩
  have h1 : leftOf es (T.map (·.born)).toArray = #[] := Array.eq_empty_of_size_eq_zero h0
  unfold leftOf at h1
  rw [Array.filter_eq_empty_iff] at h1
  have h2 := h1 e (by simpa using he)
  simp only [Bool.not_eq_true, Bool.not_eq_false', Array.contains_toList, List.contains_toArray, Bool.not_eq_eq_eq_not, Bool.not_true, Bool.not_false] at h2
  have h3 : e.born ∈ T.map (·.born) := by simpa using h2
  obtain ⟨t, ht, hte⟩ := List.mem_map.1 h3
  have := inj_born hn t (h.sub t ht) e he hte
  rw [← this]
  exact ht
/-- an entry not taken yet -/
theorem Ri.fresh {es : Array MapEntry} {T : List MapEntry} {e : MapEntry} (he : e ∈ (leftOf es (T.map (·.born)).toArray).toList) : e ∈ es.toList ∧ e.born ∉ T.map (·.born) := by
  unfold leftOf at he
  simp only [Array.toList_filter, List.mem_filter] at he
  refine ⟨he.1, fun q => ?_⟩
  have := he.2
  simp at this q
  obtain ⟨t, ht, e2⟩ := q
  exact this t ht e2
theorem nodup_more {T : List MapEntry} {e : MapEntry} (h : (T.map (·.born)).Nodup) (he : e.born ∉ T.map (·.born)) : ((T ++ [e]).map (·.born)).Nodup := by
  rw [List.map_append, List.nodup_append]
  refine ⟨h, by simp, ?_⟩
  intro a ha b hb q
  simp at hb
  rw [q, hb] at ha
  exact he ha
theorem nodup_len : ∀ (L T : List MapEntry), T.Nodup → (∀ e ∈ T, e ∈ L) → T.length ≤ L.length
  | L, [], _, _ => Nat.zero_le _
  | L, x :: r, hn, h => by
    rw [List.nodup_cons] at hn
    obtain ⟨A, B, hL⟩ := List.append_of_mem (h x List.mem_cons_self)
    subst hL
    have h2 : ∀ e ∈ r, e ∈ A ++ B := fun e he => by
      have h3 := h e (List.mem_cons_of_mem _ he)
      simp only [List.mem_append, List.mem_cons] at h3 ⊢
      rcases h3 with h3 | h3 | h3
      · exact .inl h3
      · rw [h3] at he; exact absurd he hn.1
      · exact .inr h3
    have := nodup_len (A ++ B) r hn.2 h2
    simp only [List.length_append, List.length_cons] at this ⊢
    omega
theorem taken_len {es : Array MapEntry} {T : List MapEntry} (h : ∀ e ∈ T, e ∈ es.toList) (hn : (T.map (·.born)).Nodup) : T.length ≤ es.size := by
  have h1 := nodup_len es.toList T (nodup_born hn) h
  simpa using h1
theorem prs_append (a b : NW) : prs (a ++ b) = prs a ++ prs b := by simp [prs]
/-- the row has grown by one more entry -/
theorem Ri.more {w wr w2 w3 : World} {r mb c q2 : Nat} {es : Array MapEntry} {clk : Nat} {cvv v v' : Value} {con : List UInt8} {sd ck : Int} {T : List MapEntry} {e : MapEntry} {s : ByteArray} {x : Int} (h : Ri w wr r mb c q2 es clk cvv v con sd ck T)
    (hs : w2.heap[r]? = some (.mapIter (some mb) clk ((T ++ [e]).map (·.born)).toArray clk) ∧ w2.heap[mb]? = some (.map es clk) ∧ Bx w2 c #[cvv, v, .int .u64 sd, .int .u32 ck] 45 ∧ Bx w2 q2 #[.slice none 0 0, .slice none 0 0, .int .u64 0, .int .u32 0] 45 ∧
      w2.ownsRow w.heap.size 5 1 cvv con.length (bv con) ∧ w2.ownsRow w.heap.size 77 2 v T.length (prs (T.map ent)) ∧ Below w.heap.size w w2)
    (hf : e ∈ es.toList ∧ e.born ∉ T.map (·.born)) (he : ent e = (s, x)) (hA : Appended w2 w3 w.heap.size 77 2 v v' T.length 1 (prs (T.map ent)) [.string s, .int .u32 x]) (hq : q2 ≠ c) :
    Ri w (w3.setCell ⟨c, 1, none⟩ v') r mb c q2 es clk cvv v' con sd ck (T ++ [e]) := by
  obtain ⟨h1, h2, h3, h4, h5, h6, h7⟩ := hs
  have hn := h.ne
  have vr : v.ownBlock ≠ some r := own_ne_block h6 h1 (fun _ _ _ => by simp)
  have vm : v.ownBlock ≠ some mb := own_ne_block h6 h2 (fun _ _ _ => by simp)
  have vc : v.ownBlock ≠ some c := row_ne_box h6 h3 (by decide)
  have vq : v.ownBlock ≠ some q2 := row_ne_box h6 h4 (by decide)
  have SG := grown_set w3 c 1 v'
  have hmc : mb ≠ c := fun q => by unfold Bx at h3; rw [← q, h2] at h3; cases h3
  have i1 := (hA.grown.block r (lt_of_block h1) (fun q => vr q.symm)).trans h1
  have i2 := (hA.grown.block mb (lt_of_block h2) (fun q => vm q.symm)).trans h2
  have i3 := h3.on hA.grown (fun q => vc q.symm)
  have i4 := h4.on hA.grown (fun q => vq q.symm)
  have i5 := h5.kept hA.grown (row_ne_row h5 h6 (by decide))
  have i7 := h7.trans (hA.below h6 h7.size)
  have j6 : w3.ownsRow w.heap.size 77 2 v' (T ++ [e]).length (prs ((T ++ [e]).map ent)) := by
    have := hA.own
    rw [List.map_append, prs_append, List.length_append]
    simpa [prs, he] using this
  refine ⟨(SG.block r (lt_of_block i1) (fun q => hn.2.1 (by simpa using q))).trans i1, (SG.block mb (lt_of_block i2) (fun q => hmc (by simpa using q))).trans i2, by simpa using i3.set 1 v', i4.on SG (fun q => hq (by simpa using q)), i5.kept SG (.inr (row_ne_box i5 i3 (by decide))), j6.kept SG (.inr (row_ne_box j6 i3 (by decide))), ?_, nodup_more h.nd hf.2, i7.grown SG i7.size (fun k hk => by simp only [Option.some.injEq] at hk; have := h.lo; omega), h.lo⟩
  intro y hy
  rcases List.mem_append.1 hy with hy | hy
  · exact h.sub y hy
  · obtain rfl := List.mem_singleton.1 hy
    exact hf.1

end Go.Proofs.YtmjholcpajfldaaGreatDoor
