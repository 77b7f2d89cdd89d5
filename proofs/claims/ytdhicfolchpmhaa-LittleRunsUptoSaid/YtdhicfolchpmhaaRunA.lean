/- Plain lemmas: runs and mending. No program. -/
import Derived.Test.YtdhicfolchpmhaaPure
import Derived.Test.YtdhicfolchpmhaaHeldK
import Derived.Test.YtdhicfolchpmhaaWalkC
import Derived.OwnWalk
import Derived.WalkMore
import Derived.Deep.RegionHeld
namespace Go.Proofs.Ytdhicfolchpmhaa
set_option linter.unusedVariables false

abbrev Runz := List (Nat × List Int)
/-- one byte more -/
def extR (rs : Runz) (k : Nat) (b : Int) : Runz := match rs.getLast? with
  | some (s, l) => if s + l.length = k then rs.dropLast ++ [(s, l ++ [b])] else rs ++ [(k, [b])]
  | none => rs ++ [(k, [b])]
/-- the runs in which f and g differ below k -/
def runsD (f g : Nat → Int) : Nat → Runz
  | 0 => []
  | k + 1 => if f k = g k then runsD f g k else extR (runsD f g k) k (g k)

theorem extR_end {rs : Runz} {k : Nat} {b : Int} (h : ∀ x ∈ rs, x.1 + x.2.length ≤ k) : ∀ x ∈ extR rs k b, x.1 + x.2.length ≤ k + 1 := by
  intro x hx
  unfold extR at hx
  split at hx
  · rename_i s l hl
    split at hx
    · rename_i he
      rcases List.mem_append.1 hx with h1 | h1
      · have := h x (List.dropLast_subset _ h1); omega
      · rw [List.mem_singleton.1 h1]; simp; omega
    · rcases List.mem_append.1 hx with h1 | h1
      · have := h x h1; omega
      · rw [List.mem_singleton.1 h1]; simp
  · rcases List.mem_append.1 hx with h1 | h1
    · have := h x h1; omega
    · rw [List.mem_singleton.1 h1]; simp
theorem runsD_end (f g : Nat → Int) : ∀ k, ∀ x ∈ runsD f g k, x.1 + x.2.length ≤ k
  | 0, x, hx => by simp [runsD] at hx
  | k + 1, x, hx => by
    unfold runsD at hx
    split at hx
    · have := runsD_end f g k x hx; omega
    · exact extR_end (runsD_end f g k) x hx
theorem runsD_gap (f g : Nat → Int) (k : Nat) (hk : k = 0 ∨ f (k - 1) = g (k - 1)) : ∀ x ∈ runsD f g k, x.1 + x.2.length ≠ k := by
  intro x hx
  cases k with
  | zero => simp [runsD] at hx
  | succ k =>
    have h : f k = g k := by rcases hk with h | h; · omega
                             · simpa using h
    rw [runsD, if_pos h] at hx
    have := runsD_end f g k x hx
    omega

theorem extR_new {rs : Runz} {k : Nat} {b : Int} (h : ∀ x ∈ rs, x.1 + x.2.length ≠ k) : extR rs k b = rs ++ [(k, [b])] := by
  unfold extR
  split
  · rename_i s l hl
    rw [if_neg (h _ (List.mem_of_getLast? hl))]
  · rfl
theorem extR_more (rs : Runz) (s : Nat) (l : List Int) (k : Nat) (b : Int) (h : s + l.length = k) : extR (rs ++ [(s, l)]) k b = rs ++ [(s, l ++ [b])] := by
  unfold extR
  rw [List.getLast?_append]
  simp [h]

/-- a stretch in which all differ, behind a place where they do not -/
theorem runsD_seg (f g : Nat → Int) (i : Nat) (hi : i = 0 ∨ f (i - 1) = g (i - 1)) : ∀ m, (∀ t, t < m + 1 → f (i + t) ≠ g (i + t)) → runsD f g (i + (m + 1)) = runsD f g i ++ [(i, (List.range (m + 1)).map fun t => g (i + t))]
  | 0, h => by
    have h0 := h 0 (by omega)
    rw [show i + (0 + 1) = i + 1 from rfl, runsD, if_neg (by simpa using h0), extR_new (runsD_gap f g i hi)]
    simp
  | m + 1, h => by
    have ih := runsD_seg f g i hi m (fun t ht => h t (by omega))
    have h0 := h (m + 1) (by omega)
    rw [show i + (m + 1 + 1) = (i + (m + 1)) + 1 from rfl, runsD, if_neg h0, ih, extR_more _ _ _ _ _ (by simp)]
    rw [List.range_succ (n := m + 1), List.map_append]
    simp

/-- x laid over b from place s on -/
def laid (b : List Int) (s : Nat) (x : List Int) : List Int := b.take s ++ x ++ b.drop (s + x.length)
def mendR (b : List Int) (rs : Runz) : List Int := rs.foldl (fun b r => laid b r.1 r.2) b
/-- may the runs be laid over n bytes? -/
def okR (n : Nat) : Nat → Runz → Bool
  | _, [] => true
  | last, (s, l) :: rs => decide (0 < l.length) && decide (last ≤ s) && decide (s + l.length ≤ n) && okR n (s + l.length) rs
def weigh (rs : Runz) : Nat := (rs.map (fun r => r.2.length)).sum
def endR (last : Nat) (rs : Runz) : Nat := rs.foldl (fun _ r => r.1 + r.2.length) last

theorem laid_len (b : List Int) (s : Nat) (x : List Int) (h : s + x.length ≤ b.length) : (laid b s x).length = b.length := by
  simp [laid]; omega
theorem laid_get (b : List Int) (s : Nat) (x : List Int) (h : s + x.length ≤ b.length) (i : Nat) : (laid b s x).getD i 0 = if s ≤ i ∧ i < s + x.length then x.getD (i - s) 0 else b.getD i 0 := by
  simp only [laid, List.getD, List.append_assoc]
  by_cases h1 : i < s
  · rw [if_neg (by omega), List.getElem?_append_left (by simp; omega), List.getElem?_take, if_pos h1]
  · rw [List.getElem?_append_right (by simp; omega)]
    have e : (b.take s).length = s := by simp; omega
    rw [e]
    by_cases h2 : i < s + x.length
    · rw [if_pos (by omega), List.getElem?_append_left (by omega)]
    · rw [if_neg (by omega), List.getElem?_append_right (by omega), List.getElem?_drop, show s + x.length + (i - s - x.length) = i by omega]
theorem laid_snoc (b : List Int) (s : Nat) (x : List Int) (y : Int) (h : s + x.length < b.length) : laid b s (x ++ [y]) = laid (laid b s x) (s + x.length) [y] := by
  have hl := laid_len b s x (by omega)
  apply List.ext_getElem?
  intro i
  have h1 := laid_get b s (x ++ [y]) (by simp; omega) i
  have h2 := laid_get (laid b s x) (s + x.length) [y] (by rw [hl]; simp; omega) i
  have h3 := laid_get b s x (by omega) i
  have l1 : (laid b s (x ++ [y])).length = b.length := laid_len _ _ _ (by simp; omega)
  have l2 : (laid (laid b s x) (s + x.length) [y]).length = b.length := by rw [laid_len _ _ _ (by rw [hl]; simp; omega), hl]
  by_cases hi : i < b.length
  · rw [List.getElem?_eq_getElem (by omega), List.getElem?_eq_getElem (by omega)]
    simp only [List.getD, List.getElem?_eq_getElem (show i < (laid b s (x ++ [y])).length by omega), List.getElem?_eq_getElem (show i < (laid (laid b s x) (s + x.length) [y]).length by omega), Option.getD_some] at h1 h2
    simp only [List.getD] at h3
    rw [h1, h2]
    simp only [List.length_append, List.length_singleton]
    by_cases c1 : i < s + x.length
    · by_cases c2 : s ≤ i
      · rw [if_pos (by omega), if_neg (by omega), h3, if_pos (by omega)]
        rw [List.getElem?_append_left (by omega)]
      · rw [if_neg (by omega), if_neg (by omega), h3, if_neg (by omega)]
    · by_cases c2 : i = s + x.length
      · subst c2
        rw [if_pos (by omega), if_pos (by omega), List.getElem?_append_right (by omega)]
        simp
      · rw [if_neg (by omega), if_neg (by omega), h3, if_neg (by omega)]
  · rw [List.getElem?_eq_none (by omega), List.getElem?_eq_none (by omega)]

theorem mendR_append (b : List Int) (rs qs : Runz) : mendR b (rs ++ qs) = mendR (mendR b rs) qs := by simp [mendR]
theorem endR_append (a : Nat) (rs qs : Runz) : endR a (rs ++ qs) = endR (endR a rs) qs := by simp [endR]
theorem okR_append (n : Nat) : ∀ (rs : Runz) (a : Nat) (qs : Runz), okR n a (rs ++ qs) = (okR n a rs && okR n (endR a rs) qs)
  | [], a, qs => by simp [okR, endR]
  | (s, l) :: rs, a, qs => by
    simp only [List.cons_append, okR, okR_append n rs, Bool.and_assoc]
    rfl
theorem mendR_len {n : Nat} : ∀ (rs : Runz) (a : Nat) (b : List Int), b.length = n → okR n a rs = true → (mendR b rs).length = n
  | [], _, b, hb, _ => hb
  | (s, l) :: rs, a, b, hb, h => by
    simp only [okR, Bool.and_eq_true, decide_eq_true_eq] at h
    exact mendR_len rs _ (laid b s l) (by rw [laid_len _ _ _ (by omega), hb]) h.2
theorem weigh_append (rs qs : Runz) : weigh (rs ++ qs) = weigh rs + weigh qs := by simp [weigh]

/-- how many places below k differ -/
def diffs (f g : Nat → Int) : Nat → Nat
  | 0 => 0
  | k + 1 => diffs f g k + if f k = g k then 0 else 1

/-- the runs between two lists lead from the one to the other, may be laid, and have just the bytes that differ -/
theorem runsD_ok (x y : List Int) (hxy : x.length = y.length) : ∀ k, k ≤ x.length →
    mendR x (runsD (fun i => x.getD i 0) (fun i => y.getD i 0) k) = y.take k ++ x.drop k ∧ okR x.length 0 (runsD (fun i => x.getD i 0) (fun i => y.getD i 0) k) = true
      ∧ endR 0 (runsD (fun i => x.getD i 0) (fun i => y.getD i 0) k) ≤ k ∧ weigh (runsD (fun i => x.getD i 0) (fun i => y.getD i 0) k) = diffs (fun i => x.getD i 0) (fun i => y.getD i 0) k
  | 0, _ => by simp [runsD, mendR, okR, endR, weigh, diffs]
  | k + 1, hk => by
    obtain ⟨h1, h2, h3, h4⟩ := runsD_ok x y hxy k (by omega)
    have hend := runsD_end (fun i => x.getD i 0) (fun i => y.getD i 0) k
    have hx : x.getD k 0 = x[k] := by simp [List.getD, List.getElem?_eq_getElem (show k < x.length by omega)]
    have hy : y.getD k 0 = y[k] := by simp [List.getD, List.getElem?_eq_getElem (show k < y.length by omega)]
    have dx : x.drop k = x[k] :: x.drop (k + 1) := List.drop_eq_getElem_cons (by omega)
    have ty : y.take (k + 1) = y.take k ++ [y[k]] := by rw [List.take_add_one, List.getElem?_eq_getElem (show k < y.length by omega)]; rfl
    have tl : (y.take k).length = k := by simp; omega
    have one : laid (y.take k ++ x.drop k) k [y[k]] = y.take (k + 1) ++ x.drop (k + 1) := by
      have e1 : (y.take k ++ x.drop k).take k = y.take k := by rw [List.take_append_of_le_length (by omega), List.take_of_length_le (by omega)]
      have e2 : (y.take k ++ x.drop k).drop (k + 1) = x.drop (k + 1) := by
        rw [List.drop_append, List.drop_eq_nil_of_le (by omega), tl, List.nil_append, List.drop_drop, show k + (k + 1 - k) = k + 1 by omega]
      unfold laid
      rw [List.length_singleton, e1, e2, ty]
    rw [runsD, diffs]
    simp only [hx, hy]
    by_cases he : x[k] = y[k]
    · rw [if_pos he, if_pos he]
      refine ⟨?_, h2, by omega, h4⟩
      rw [h1, dx, he, ty, List.append_assoc]
      rfl
    · rw [if_neg he, if_neg he]
      obtain ⟨rs, hrs⟩ : ∃ rs, rs = runsD (fun i => x.getD i 0) (fun i => y.getD i 0) k := ⟨_, rfl⟩
      rw [← hrs] at h1 h2 h3 h4 hend ⊢
      have new : extR rs k y[k] = rs ++ [(k, [y[k]])] → (mendR x (extR rs k y[k]) = y.take (k + 1) ++ x.drop (k + 1) ∧ okR x.length 0 (extR rs k y[k]) = true ∧ endR 0 (extR rs k y[k]) ≤ k + 1 ∧ weigh (extR rs k y[k]) = diffs (fun i => x.getD i 0) (fun i => y.getD i 0) k + 1) := fun e => by
        rw [e]
        refine ⟨?_, ?_, ?_, ?_⟩
        · rw [mendR_append, h1]; exact one
        · rw [okR_append, h2]; simp [okR]; omega
        · rw [endR_append]; simp [endR]
        · rw [weigh_append, h4]; simp [weigh]
      cases hl : rs.getLast? with
      | none =>
        have : rs = [] := List.getLast?_eq_none_iff.1 hl
        subst this
        exact new (by simp [extR])
      | some sl =>
        obtain ⟨s, l⟩ := sl
        by_cases hs : s + l.length = k
        · obtain ⟨qs, rfl⟩ : ∃ qs, rs = qs ++ [(s, l)] := List.getLast?_eq_some_iff.1 hl
          rw [extR_more _ _ _ _ _ hs]
          rw [mendR_append] at h1
          rw [okR_append] at h2
          rw [weigh_append] at h4
          simp only [okR, Bool.and_eq_true, decide_eq_true_eq, Bool.and_true] at h2
          have hm : (mendR x qs).length = x.length := mendR_len qs 0 x rfl h2.1
          refine ⟨?_, ?_, ?_, ?_⟩
          · rw [mendR_append]
            show laid (mendR x qs) s (l ++ [y[k]]) = _
            rw [laid_snoc _ _ _ _ (by omega), hs]
            have : laid (mendR x qs) s l = y.take k ++ x.drop k := h1
            rw [this]
            exact one
          · rw [okR_append, h2.1]
            simp [okR]
            omega
          · rw [endR_append]; simp [endR]; omega
          · rw [weigh_append]; simp [weigh] at h4 ⊢; omega
        · exact new (by unfold extR; rw [hl]; simp [hs])

theorem diffs_le {f g : Nat → Int} {s m : Nat} (h : ∀ i, ¬ (s ≤ i ∧ i < s + m) → f i = g i) : ∀ k, diffs f g k ≤ min (k - s) m
  | 0 => by simp [diffs]
  | k + 1 => by
    have ih := diffs_le h k
    rw [diffs]
    by_cases hk : s ≤ k ∧ k < s + m
    · have : (if f k = g k then 0 else 1) ≤ 1 := by split <;> omega
      omega
    · rw [if_pos (h k hk)]; omega
theorem diffs_tri (f g h : Nat → Int) : ∀ k, diffs f h k ≤ diffs f g k + diffs g h k
  | 0 => by simp [diffs]
  | k + 1 => by
    have ih := diffs_tri f g h k
    simp only [diffs]
    by_cases h1 : f k = g k
    · by_cases h2 : g k = h k
      · rw [if_pos (h1.trans h2)]; omega
      · have : (if f k = h k then 0 else 1) ≤ 1 := by split <;> omega
        rw [if_pos h1, if_neg h2]; omega
    · have : (if f k = h k then 0 else 1) ≤ 1 := by split <;> omega
      rw [if_neg h1]; omega
theorem mend_diffs {n : Nat} : ∀ (rs : Runz) (a : Nat) (b : List Int), b.length = n → okR n a rs = true → diffs (fun i => b.getD i 0) (fun i => (mendR b rs).getD i 0) n ≤ weigh rs
  | [], _, b, _, _ => by
    have : ∀ k, diffs (fun i => b.getD i 0) (fun i => (mendR b []).getD i 0) k = 0 := fun k => by
      induction k with
      | zero => rfl
      | succ k ih => rw [diffs, ih, if_pos (show b.getD k 0 = (mendR b []).getD k 0 from rfl)]
    rw [this]; omega
  | (s, l) :: rs, a, b, hb, h => by
    simp only [okR, Bool.and_eq_true, decide_eq_true_eq] at h
    have ih := mend_diffs rs _ (laid b s l) (by rw [laid_len _ _ _ (by omega), hb]) h.2
    have h1 := diffs_le (f := fun i => b.getD i 0) (g := fun i => (laid b s l).getD i 0) (s := s) (m := l.length) (fun i hi => by
      show b.getD i 0 = (laid b s l).getD i 0
      rw [laid_get _ _ _ (by omega), if_neg hi]) n
    have h2 := diffs_tri (fun i => b.getD i 0) (fun i => (laid b s l).getD i 0) (fun i => (mendR (laid b s l) rs).getD i 0) n
    show diffs (fun i => b.getD i 0) (fun i => (mendR (laid b s l) rs).getD i 0) n ≤ weigh ((s, l) :: rs)
    simp only [weigh, List.map_cons, List.sum_cons] at ih ⊢
    omega

/-- the runs of two lists -/
def runsL (x y : List Int) : Runz := runsD (fun i => x.getD i 0) (fun i => y.getD i 0) x.length
theorem runsL_mend (x y : List Int) (h : x.length = y.length) : mendR x (runsL x y) = y ∧ okR x.length 0 (runsL x y) = true := by
  obtain ⟨h1, h2, _⟩ := runsD_ok x y h x.length (Nat.le_refl _)
  refine ⟨?_, h2⟩
  unfold runsL
  rw [h1, h, List.take_of_length_le (Nat.le_refl _), List.drop_eq_nil_of_le (by omega), List.append_nil]
theorem runsL_least (x : List Int) (rs : Runz) (h : okR x.length 0 rs = true) : weigh (runsL x (mendR x rs)) ≤ weigh rs := by
  have hl := mendR_len rs 0 x rfl h
  obtain ⟨_, _, _, h4⟩ := runsD_ok x (mendR x rs) hl.symm x.length (Nat.le_refl _)
  unfold runsL
  rw [h4]
  exact mend_diffs rs 0 x rfl h
theorem runsL_byt {x y : List Int} : ∀ k, ∀ r ∈ runsD (fun i => x.getD i 0) (fun i => y.getD i 0) k, k ≤ y.length → ∀ b ∈ r.2, b ∈ y
  | 0, r, hr, _, _, _ => by simp [runsD] at hr
  | k + 1, r, hr, hk, b, hb => by
    have ih := runsL_byt (x := x) (y := y) k
    have hy : y.getD k 0 ∈ y := by
      simp only [List.getD, List.getElem?_eq_getElem (show k < y.length by omega), Option.getD_some]
      exact List.getElem_mem _
    rw [runsD] at hr
    split at hr
    · exact ih r hr (by omega) b hb
    · unfold extR at hr
      split at hr
      · rename_i s l hl
        split at hr
        · rcases List.mem_append.1 hr with h1 | h1
          · exact ih r (List.dropLast_subset _ h1) (by omega) b hb
          · rw [List.mem_singleton.1 h1] at hb
            rcases List.mem_append.1 hb with h2 | h2
            · exact ih (s, l) (List.mem_of_getLast? hl) (by omega) b h2
            · rw [List.mem_singleton.1 h2]; exact hy
        · rcases List.mem_append.1 hr with h1 | h1
          · exact ih r h1 (by omega) b hb
          · rw [List.mem_singleton.1 h1] at hb
            rw [List.mem_singleton.1 hb]; exact hy
      · rcases List.mem_append.1 hr with h1 | h1
        · exact ih r h1 (by omega) b hb
        · rw [List.mem_singleton.1 h1] at hb
          rw [List.mem_singleton.1 hb]; exact hy
end Go.Proofs.Ytdhicfolchpmhaa

namespace Go.Proofs.Ytdhicfolchpmhaa
open Go.RowKit
set_option linter.unusedVariables false
set_option linter.unusedSimpArgs false

/-- append to an own row, as one step of a region that draws its order -/
theorem step_append_str {P : Program} {w : World} {ops : Array Oper} {o : Oper} {a : Act} {K : Act → World → Prop} {Q : Exit → Act → World → Prop} {E : Prop} (hgd : o.guard = none) (s x : Operand) (t : TypeId)
    (ho : o.op = .call { callee := .builtin .append, args := #[s, x], argTypes := #[t, t] })
    (base : Nat) (e e' : TypeId) (z : Value) (size bytes m : Nat) (ht : P.underlying t = some (.slice e)) (hinfo : (P.info? e).map (fun i => (i.zero, i.size, i.bytes)) = some (some z, size, bytes))
    (hzs : z.cells.size = size) (hsz : 0 < size)
    (v : Value) (n : Nat) (xs news : List Value) (fr : Nat × Nat) (hown : w.ownsRow base e size v n xs) (hl : news.length = m * size) (h1 : ∀ u ∈ news, u.oneCell' = true)
    (h63 : n + m ≤ maxLen) (hbytes : (n + m) * bytes ≤ 140737488355328) (hbase : base ≤ w.heap.size)
    (hs : a.eval s = v) (hx : a.eval x = .slice (some ⟨w.heap.size, 0, none⟩) m m)
    (h : ∀ v' w', Appended w w' base e size v v' n m xs news → K (a.put o.dst v') w') :
    if Region.wanted o (yielded ops a.tmps) = true then Oper.wp P o a (w.alloc (.cells news.toArray e' fr)) K Q else E := by
  have hw : Region.wanted o (yielded ops a.tmps) = true := by simp [Region.wanted, hgd]
  rw [if_pos hw]
  obtain ⟨i, hi, hz0, hz1, hz2⟩ := info_parts hinfo
  subst hz1
  subst hz2
  obtain ⟨v', w', hr, hA⟩ := append_strong (P := P) (w.alloc (.cells news.toArray e' fr)) base t o.type e i z ht hi hz0 hzs hsz v n xs (hown.alloc _) ⟨w.heap.size, 0, none⟩ m m news hl (by
    intro j u hj
    have hadd : (⟨w.heap.size, 0, none⟩ : Addr).add j = ⟨w.heap.size, j, none⟩ := by unfold Addr.add; split <;> simp_all
    rw [hadd, World.cell?_alloc_mark]; simpa using hj) h1 h63 hbytes (by simp; omega)
  unfold Oper.wp execOp
  simp only [ho, resolve, invoke, builtin, Sem.run_bind, Sem.run_pure, Result.andThen_ok, List.map_toArray, List.map_cons, List.map_nil, hs, hx, hr]
  refine h v' w' ⟨hA.own, hA.old, grown_trans (World.grownBy_alloc w _ _) hA.grown, ?_, hA.nil⟩
  rcases hA.place with h | ⟨g, h1, h2, h3⟩
  · exact .inl h
  · exact .inr ⟨g, h1, by simp at h2; omega, h3⟩

/-- a run as it lies: its place, its slice, its bytes -/
structure RunW where
  at_ : Nat
  v : Value
  l : List Int
def RunW.row (r : RunW) : RowS := ⟨r.v, 5, 1, r.l.length, r.l.map (Value.int .u8)⟩
def RunW.cells (r : RunW) : List Value := [.int .u32 r.at_, r.v]
def RunW.two (r : RunW) : Nat × List Int := (r.at_, r.l)
theorem run_cells_len (R : List RunW) : (R.flatMap RunW.cells).length = R.length * 2 := by
  induction R with
  | nil => rfl
  | cons r R ih => simp only [List.flatMap_cons, List.length_append, ih, RunW.cells, List.length_cons, List.length_nil]; omega
theorem run_cells_get : ∀ (R : List RunW) (i : Nat) (h : i < R.length), (R.flatMap RunW.cells)[i * 2]? = some (.int .u32 R[i].at_) ∧ (R.flatMap RunW.cells)[i * 2 + 1]? = some R[i].v
  | [], i, h => absurd h (by simp)
  | r :: R, 0, _ => ⟨rfl, rfl⟩
  | r :: R, i + 1, h => by
    have := run_cells_get R i (by simpa using h)
    rw [show (i + 1) * 2 = i * 2 + 2 by omega]
    exact this

/-- a list of runs that was made -/
structure Rn (w : World) (B : Nat) (v : Value) (R : List RunW) : Prop where
  sep : Sep w B (⟨v, 104, 2, R.length, R.flatMap RunW.cells⟩ :: R.map RunW.row)
/-- and a run that is being made, in block q -/
structure Rop (w : World) (B : Nat) (v : Value) (q : Nat) (cv : Value) (R : List RunW) (i : Nat) (l : List Int) : Prop where
  sep : Sep w B (⟨v, 104, 2, R.length, R.flatMap RunW.cells⟩ :: ⟨.slice (some ⟨q, 0, none⟩) 1 1, 104, 2, 1, [.int .u32 i, cv]⟩ :: ⟨cv, 5, 1, l.length, l.map (Value.int .u8)⟩ :: R.map RunW.row)

theorem Rn.start (w : World) (B : Nat) : Rn w B (.slice none 0 0) [] := ⟨⟨fun i hi => by
  obtain rfl : i = 0 := by simpa using hi
  exact World.ownsRow_nil w B 104 2, fun i j hi hj hij => by simp at hi hj; omega⟩⟩
theorem Rn.below {w w' : World} {B : Nat} {v : Value} {R : List RunW} (h : Rn w B v R) (hb : Below w.heap.size w w') : Rn w' B v R := ⟨h.sep.below hb (Nat.le_refl _)⟩
theorem Rop.below {w w' : World} {B q i : Nat} {v cv : Value} {R : List RunW} {l : List Int} (h : Rop w B v q cv R i l) (hb : Below w.heap.size w w') : Rop w' B v q cv R i l := ⟨h.sep.below hb (Nat.le_refl _)⟩
theorem Rn.own {w : World} {B : Nat} {v : Value} {R : List RunW} (h : Rn w B v R) : w.ownsRow B 104 2 v R.length (R.flatMap RunW.cells) := by
  have := h.sep.own 0 (by simp); simpa using this

theorem Rn.open {w : World} {B : Nat} {v : Value} {R : List RunW} (h : Rn w B v R) (hB : B ≤ w.heap.size) (i : Nat) : Rop (w.alloc (.cells #[.int .u32 i, .slice none 0 0] 104)) B v w.heap.size (.slice none 0 0) R i [] := by
  have h1 := h.sep.alloc (.cells #[.int .u32 i, .slice none 0 0] 104)
  have o1 : (w.alloc (.cells #[.int .u32 i, .slice none 0 0] 104)).ownsRow B 104 2 (.slice (some ⟨w.heap.size, 0, none⟩) 1 1) 1 [.int .u32 i, .slice none 0 0] :=
    own_base (World.ownsRow_lit (e := 104) (size := 2) w #[.int .u32 i, .slice none 0 0] 1 (Nat.le_refl _) (by decide) rfl) hB
  have h2 := h1.push ⟨.slice (some ⟨w.heap.size, 0, none⟩) 1 1, 104, 2, 1, [.int .u32 i, .slice none 0 0]⟩ o1 (fun j hj => h.sep.apart_new _ (fun g hg => by simp [Value.ownBlock] at hg; omega) j hj)
  have h3 := h2.push ⟨.slice none 0 0, 5, 1, 0, []⟩ (World.ownsRow_nil _ B 5 1) (fun j hj => RowS.apart_symm (.inl rfl))
  refine ⟨?_⟩
  rw [Sep.pair] at h3 ⊢
  have hp : (⟨v, 104, 2, R.length, R.flatMap RunW.cells⟩ :: R.map RunW.row ++ [⟨.slice (some ⟨w.heap.size, 0, none⟩) 1 1, 104, 2, 1, [.int .u32 i, .slice none 0 0]⟩] ++ [⟨.slice none 0 0, 5, 1, 0, []⟩] : List RowS).Perm
      (⟨v, 104, 2, R.length, R.flatMap RunW.cells⟩ :: ⟨.slice (some ⟨w.heap.size, 0, none⟩) 1 1, 104, 2, 1, [.int .u32 i, .slice none 0 0]⟩ :: ⟨.slice none 0 0, 5, 1, 0, []⟩ :: R.map RunW.row) := by
    simp only [List.cons_append, List.append_assoc]
    exact List.Perm.cons _ (List.perm_append_comm (l₁ := R.map RunW.row) (l₂ := [_, _]))
  exact ⟨fun r hr => h3.1 r (hp.mem_iff.2 hr), (hp.pairwise_iff (fun h => RowS.apart_symm h)).1 h3.2⟩

theorem Rop.ownO {w : World} {B q i : Nat} {v cv : Value} {R : List RunW} {l : List Int} (h : Rop w B v q cv R i l) : w.ownsRow B 104 2 v R.length (R.flatMap RunW.cells) := by
  have := h.sep.own 0 (by simp); simpa using this
theorem Rop.ownQ {w : World} {B q i : Nat} {v cv : Value} {R : List RunW} {l : List Int} (h : Rop w B v q cv R i l) : w.ownsRow B 104 2 (.slice (some ⟨q, 0, none⟩) 1 1) 1 [.int .u32 i, cv] := by
  have := h.sep.own 1 (by simp); simpa using this
theorem Rop.ownC {w : World} {B q i : Nat} {v cv : Value} {R : List RunW} {l : List Int} (h : Rop w B v q cv R i l) : w.ownsRow B 5 1 cv l.length (l.map (Value.int .u8)) := by
  have := h.sep.own 2 (by simp); simpa using this
theorem Rop.farQ {w : World} {B q i : Nat} {v cv : Value} {R : List RunW} {l : List Int} (h : Rop w B v q cv R i l) : some q ≠ cv.ownBlock ∧ some q ≠ v.ownBlock := by
  have h1 := h.sep.apart 1 2 (by simp) (by simp) (by decide)
  have h2 := h.sep.apart 1 0 (by simp) (by simp) (by decide)
  simp only [List.getElem_cons_zero, List.getElem_cons_succ, RowS.apart, Value.ownBlock] at h1 h2
  exact ⟨h1.resolve_left (by simp), h2.resolve_left (by simp)⟩
/-- the block q, read -/
theorem Rop.q0 {w : World} {B q i : Nat} {v cv : Value} {R : List RunW} {l : List Int} (h : Rop w B v q cv R i l) : w.cell? ⟨q, 0, none⟩ = some (.int .u32 i) := by
  have := h.ownQ.cellAt 0 (by omega); simpa using this
theorem Rop.q1 {w : World} {B q i : Nat} {v cv : Value} {R : List RunW} {l : List Int} (h : Rop w B v q cv R i l) : w.cell? ⟨q, 1, none⟩ = some cv := by
  have := h.ownQ.cellAt 1 (by omega); simpa using this
theorem Rop.fz {w : World} {B q i : Nat} {v cv : Value} {R : List RunW} {l : List Int} (h : Rop w B v q cv R i l) (j : Nat) : w.frozen? ⟨q, j, none⟩ = false := h.ownQ.frozenAt j

/-- behind the append: the run's cell still reads as it did -/
theorem Rop.appended {w w' : World} {B q i : Nat} {v cv cv' : Value} {R : List RunW} {l : List Int} {y : Int} (h : Rop w B v q cv R i l) (hA : Appended w w' B 5 1 cv cv' l.length 1 (l.map (Value.int .u8)) [.int .u8 y]) :
    w'.cell? ⟨q, 1, none⟩ = some cv ∧ w'.frozen? ⟨q, 1, none⟩ = false ∧ Rop (w'.setCell ⟨q, 1, none⟩ cv') B v q cv' R i (l ++ [y]) := by
  have p1 : cv'.ownBlock = cv.ownBlock ∨ ∃ g, cv'.ownBlock = some g ∧ w.heap.size ≤ g := by
    rcases hA.place with hp | ⟨g, hp, hg, _⟩
    · exact .inl hp
    · exact .inr ⟨g, hp, hg⟩
  have s1 := h.sep.turn 2 (by simp) ⟨cv', 5, 1, l.length + 1, l.map (Value.int .u8) ++ [.int .u8 y]⟩ (by simpa using hA.grown) hA.own (by simpa using p1)
  simp only [List.set_cons_succ, List.set_cons_zero] at s1
  have oq := s1.own 1 (by simp)
  simp only [List.getElem_cons_zero, List.getElem_cons_succ] at oq
  have hst := oq.stored 1 cv'
  have s2 := s1.turn 1 (by simp) ⟨.slice (some ⟨q, 0, none⟩) 1 1, 104, 2, 1, [.int .u32 i, cv']⟩ hst.2 (by simpa using hst.1) (.inl rfl)
  simp only [List.set_cons_succ, List.set_cons_zero] at s2
  refine ⟨by have := oq.cellAt 1 (by omega); simpa using this, oq.frozenAt 1, ⟨?_⟩⟩
  rw [List.length_append, List.length_singleton, List.map_append]
  exact s2

theorem Rop.close {w w' : World} {B q i : Nat} {v v' cv : Value} {R : List RunW} {l : List Int} (h : Rop w B v q cv R i l) (hA : Appended w w' B 104 2 v v' R.length 1 (R.flatMap RunW.cells) [.int .u32 i, cv]) : Rn w' B v' (R ++ [⟨i, cv, l⟩]) := by
  have p1 : v'.ownBlock = v.ownBlock ∨ ∃ g, v'.ownBlock = some g ∧ w.heap.size ≤ g := by
    rcases hA.place with hp | ⟨g, hp, hg, _⟩
    · exact .inl hp
    · exact .inr ⟨g, hp, hg⟩
  have s1 := h.sep.turn 0 (by simp) ⟨v', 104, 2, R.length + 1, R.flatMap RunW.cells ++ [.int .u32 i, cv]⟩ (by simpa using hA.grown) hA.own (by simpa using p1)
  simp only [List.set_cons_zero] at s1
  have s2 := s1.sub (((List.sublist_cons_self _ _)).cons_cons _)
  refine ⟨?_⟩
  rw [Sep.pair] at s2 ⊢
  have e1 : (R ++ ([⟨i, cv, l⟩] : List RunW)).flatMap RunW.cells = R.flatMap RunW.cells ++ [.int .u32 i, cv] := by rw [List.flatMap_append]; rfl
  have e2 : (R ++ ([⟨i, cv, l⟩] : List RunW)).map RunW.row = R.map RunW.row ++ [⟨cv, 5, 1, l.length, l.map (Value.int .u8)⟩] := by rw [List.map_append]; rfl
  rw [e1, e2, List.length_append, List.length_singleton]
  have hp : (⟨v', 104, 2, R.length + 1, R.flatMap RunW.cells ++ [.int .u32 i, cv]⟩ :: ⟨cv, 5, 1, l.length, l.map (Value.int .u8)⟩ :: R.map RunW.row : List RowS).Perm (⟨v', 104, 2, R.length + 1, R.flatMap RunW.cells ++ [.int .u32 i, cv]⟩ :: (R.map RunW.row ++ [⟨cv, 5, 1, l.length, l.map (Value.int .u8)⟩])) :=
    List.Perm.cons _ (List.perm_append_comm (l₁ := [_]))
  exact ⟨fun r hr => s2.1 r (hp.mem_iff.2 hr), (hp.pairwise_iff (fun h => RowS.apart_symm h)).1 s2.2⟩
end Go.Proofs.Ytdhicfolchpmhaa

namespace Go.Proofs.Ytdhicfolchpmhaa
open Go.RowKit
set_option linter.unusedVariables false
set_option linter.unusedSimpArgs false

theorem runsD_len (f g : Nat → Int) : ∀ k, (runsD f g k).length ≤ k
  | 0 => by simp [runsD]
  | k + 1 => by
    have ih := runsD_len f g k
    unfold runsD
    split
    · omega
    · unfold extR
      split
      · split
        · simp only [List.length_append, List.length_dropLast, List.length_singleton]; omega
        · simp; omega
      · simp; omega
theorem runsD_next (f g : Nat → Int) (k : Nat) (h : f k = g k) : runsD f g (k + 1) = runsD f g k := by rw [runsD, if_pos h]
def seg (g : Nat → Int) (k j : Nat) : List Int := (List.range (j - k)).map fun t => g (k + t)
theorem seg_len (g : Nat → Int) (k j : Nat) : (seg g k j).length = j - k := by simp [seg]
theorem seg_succ (g : Nat → Int) (k j : Nat) (h : k ≤ j) : seg g k (j + 1) = seg g k j ++ [g j] := by
  unfold seg
  rw [show j + 1 - k = (j - k) + 1 by omega, List.range_succ, List.map_append]
  simp [show k + (j - k) = j by omega]
theorem runsD_seg' (f g : Nat → Int) (k j : Nat) (hk : k = 0 ∨ f (k - 1) = g (k - 1)) (hj : k < j) (h : ∀ t, k ≤ t → t < j → f t ≠ g t) : runsD f g j = runsD f g k ++ [(k, seg g k j)] := by
  obtain ⟨m, rfl⟩ : ∃ m, j = k + (m + 1) := ⟨j - k - 1, by omega⟩
  rw [runsD_seg f g k hk m (fun t ht => h (k + t) (by omega) (by omega))]
  unfold seg
  rw [show k + (m + 1) - k = m + 1 by omega]
set_option maxHeartbeats 2000000 in
set_option maxRecDepth 100000 in
theorem runs55 (ao bo : Option Addr) (n c1 c2 : Nat) (x y : List Int) (w : World) (hx : n = x.length) (hy : n = y.length) (hn : n ≤ 100000000) (hi : Ints .u8 w ao x) (hj : Ints .u8 w bo y) :
    Calls Try.prog 55 #[.slice ao n c1, .slice bo n c2] w fun e w' => ∃ v R, e = .returned (.tuple #[v, .int .i64 0]) ∧ Rn w' w.heap.size v R ∧ R.map RunW.two = runsL x y ∧ Below w.heap.size w w' := by
  obtain ⟨xb, xo, hao, hcx⟩ := hi.at
  obtain ⟨yb, yo, hbo, hcy⟩ := hj.at
  have hxc : Hid (∀ W j, j < n → Below w.heap.size w W → W.cell? ⟨xb, xo + j, none⟩ = some (.int .u8 (x.getD j 0))) := fun W j hjn hb => (hb.cell (World.block_lt_of_cell? w _ (hcx.out j (by omega)))).trans (hcx.out j (by omega))
  have hyc0 : Hid (∀ W j, j < n → Below w.heap.size w W → W.cell? ⟨yb, yo + j, none⟩ = some (.int .u8 (y.getD j 0))) := fun W j hjn hb => (hb.cell (World.block_lt_of_cell? w _ (hcy.out j (by omega)))).trans (hcy.out j (by omega))
  have hXY := hid (show runsL x y = runsD (fun i => x.getD i 0) (fun i => y.getD i 0) n from by rw [hx]; rfl)
  rw [← hx] at hao
  rw [← hy] at hbo
  clear hi hj hcx hcy hx hy
  go_enter Try.func55, Try.ntmps55
  go_wp2_with fail
  go_step3
  go_wp2_with fail
  go_step3
  go_wp2_with fail
  go_loopw [6, 7] (fun v i wr => ∃ (k : Nat) (v0 : Value) (R : List RunW), v0 = v ∧ i = .int .i64 k ∧ k ≤ n + 1 ∧ Rn wr w.heap.size v0 R ∧ R.map RunW.two = runsD (fun i => x.getD i 0) (fun i => y.getD i 0) (min k n) ∧ (k = 0 ∨ n < k ∨ x.getD (k - 1) 0 = y.getD (k - 1) 0) ∧ Below w.heap.size w wr) (fun _ i _ => n + 1 - (intOf i).toNat)
  case atStart => exact ⟨0, _, [], rfl, rfl, Nat.zero_le _, Rn.start _ _, by simp [runsD], .inl rfl, Below.refl _ _⟩
  case round =>
    obtain ⟨k, v, R, rfl, rfl, hk, hr, hm, hg, hb⟩ := hrel
    have hRn := hid hr
    have hM := hid hm
    have hG := hid hg
    have hB := hid hb
    clear hr hm hg hb
    by_cases hlt : k < n
    · rcases hao with h0 | rfl
      · omega
      rcases hbo with h0 | rfl
      · omega
      have hcx := hxc.out wr k hlt hB.out
      have hcy := hyc0.out wr k hlt hB.out
      by_cases he : x.getD k 0 = y.getD k 0
      · have hE := hid he
        have hbq : (x.getD k 0 == y.getD k 0) = true := beq_iff_eq.2 he
        clear he
        obtain ⟨xk, hxk⟩ : ∃ z, z = x.getD k 0 := ⟨_, rfl⟩
        obtain ⟨yk, hyk⟩ : ∃ z, z = y.getD k 0 := ⟨_, rfl⟩
        rw [← hxk] at hcx hbq
        rw [← hyk] at hcy hbq
        clear hxk hyk
        go_wp2_with fail
        go_quiet ((fail))
        go_wp2_with fail
        go_roundw
        case rel => exact ⟨k + 1, _, R, rfl, by go_num, by omega, hRn.out.below (below_drewN' (Below.refl _ _) _), by rw [hM.out, show min (k + 1) n = k + 1 by omega, show min k n = k by omega, runsD_next _ _ _ hE.out], .inr (.inr (by simpa using hE.out)), below_drewN' hB.out _⟩
        case measure => simp [intOf]; omega
      · have hE := hid he
        have hbq : (x.getD k 0 == y.getD k 0) = false := beq_eq_false_iff_ne.2 he
        clear he
        have hwk : IntKind.u32.wrap (k : Int) = k := by rw [IntKind.wrap_u32]; omega
        obtain ⟨xk, hxk⟩ : ∃ z, z = x.getD k 0 := ⟨_, rfl⟩
        obtain ⟨yk, hyk⟩ : ∃ z, z = y.getD k 0 := ⟨_, rfl⟩
        rw [← hxk] at hcx hbq
        rw [← hyk] at hcy hbq
        clear hxk hyk
        go_wp2_with fail
        go_quiet ((fail))
        have hRz := hid (hRn.out.below (below_drewN' (Below.refl wr.heap.size wr) nq))
        have hBz := hid (below_drewN' hB.out nq)
        generalize wr.drewN nq = wz at *
        clear hcx hcy hbq
        have hRo := hid (hRz.out.open hBz.out.size k)
        have hBo := hid (hBz.out.alloc hBz.out.size (.cells #[.int .u32 k, .slice none 0 0] 104))
        have hGap : Hid (k = 0 ∨ x.getD (k - 1) 0 = y.getD (k - 1) 0) := by
          rcases hG.out with h | h | h
          · exact .inl h
          · omega
          · exact .inr h
        have hMk := hid (hM.out.trans (by rw [show min k n = k by omega]))
        clear hRn hM hG hB hRz hBz hwk
        go_wp2_with fail
        generalize wz.heap.size = q at *
        generalize wz.alloc (.cells #[.int .u32 k, .slice none 0 0] 104) = wo at *
        go_loopw [6, 7] (fun v1 i wr => ∃ (j : Nat) (cv : Value), v = v1 ∧ k ≤ j ∧ j ≤ n ∧ i = .int .i64 j ∧ Rop wr w.heap.size v q cv R k (seg (fun i => y.getD i 0) k j) ∧ (∀ t, k ≤ t → t < j → x.getD t 0 ≠ y.getD t 0) ∧ Below w.heap.size w wr) (fun _ i _ => n - (intOf i).toNat)
        case atStart => exact ⟨k, _, rfl, Nat.le_refl _, by omega, rfl, by simpa [seg] using hRo.out, fun t h1 h2 => by omega, hBo.out⟩
        case round =>
          clear hRo hBo
          obtain ⟨j, cv, rfl, hkj, hjn, rfl, hrop, hall, hb⟩ := hrel
          have hRop := hid hrop
          have hAll := hid hall
          have hB := hid hb
          have hsz := hb.size
          obtain ⟨cao, cc, hcv, -⟩ := own_any_shape hrop.ownC
          rw [seg_len] at hcv
          subst hcv
          have hRl : R.length ≤ n := by
            have h1 := congrArg List.length hMk.out
            have h2 := runsD_len (fun i => x.getD i 0) (fun i => y.getD i 0) k
            rw [List.length_map] at h1
            omega
          clear hrop hall hb
          by_cases hlt2 : j < n
          · have hcx := hxc.out wr j hlt2 hB.out
            have hcy := hyc0.out wr j hlt2 hB.out
            by_cases he : x.getD j 0 = y.getD j 0
            · have hkj2 : k < j := by
                rcases Nat.lt_or_ge k j with h | h
                · exact h
                · obtain rfl : k = j := by omega
                  exact absurd he hE.out
              have hE2 := hid he
              have hbq : (x.getD j 0 == y.getD j 0) = true := beq_iff_eq.2 he
              clear he
              obtain ⟨xk, hxk⟩ : ∃ z, z = x.getD j 0 := ⟨_, rfl⟩
              obtain ⟨yk, hyk⟩ : ∃ z, z = y.getD j 0 := ⟨_, rfl⟩
              rw [← hxk] at hcx hbq
              rw [← hyk] at hcy hbq
              clear hxk hyk
              go_wp2_with fail
              go_quiet ((fail))
              have hRop' := hid (hRop.out.below (below_drewN' (Below.refl wr.heap.size wr) nq))
              have hB' := hid (below_drewN' hB.out nq)
              have hsz' := hB'.out.size
              clear hRop hB hsz hcx hcy hbq
              generalize wr.drewN nq = wz at *
              have hRop := hRop'
              have hB := hB'
              have hsz := hsz'
              have hq0 := hRop.out.q0
              have hq1 := hRop.out.q1
              go_wp2_with (at_builtin; go_must (refine wpList_append_str rfl _ _ 90 rfl w.heap.size 104 104 (.agg #[.int .u32 0, .slice none 0 0]) 2 32 1 Try.underlying90 (by kernel_rfl) rfl (by decide) _ R.length _ [.int .u32 k, .slice cao (j - k) cc] (0, 0) hRop.out.ownO rfl (by simp [Value.oneCell']) (by unfold maxLen; omega) (by omega) hsz rfl rfl ?_); intro v' w3 hA3)
              have hR3 := hid (hRop.out.close hA3)
              have hB3 := hid (hB.out.trans (hA3.below hRop.out.ownO hB.out.size))
              clear hA3
              go_roundw
              case rel => exact ⟨j + 1, _, _, rfl, by go_num, by omega, hR3.out, by rw [List.map_append, hMk.out, show min (j + 1) n = j + 1 by omega, runsD_next _ _ _ hE2.out, runsD_seg' _ _ k j hGap.out hkj2 hAll.out]; rfl, .inr (.inr (by simpa using hE2.out)), hB3.out⟩
              case measure => simp [intOf]; omega
            · have hE2 := hid he
              have hbq : (x.getD j 0 == y.getD j 0) = false := beq_eq_false_iff_ne.2 he
              clear he
              obtain ⟨xk, hxk⟩ : ∃ z, z = x.getD j 0 := ⟨_, rfl⟩
              obtain ⟨yk, hyk⟩ : ∃ z, z = y.getD j 0 := ⟨_, rfl⟩
              have hYK := hid hyk
              rw [← hxk] at hcx hbq
              rw [← hyk] at hcy hbq
              clear hxk hyk
              go_wp2_with fail
              go_quiet ((fail))
              have hRop' := hid (hRop.out.below (below_drewN' (Below.refl wr.heap.size wr) nq))
              have hB' := hid (below_drewN' hB.out nq)
              clear hRop hB hsz hcx hcy hbq
              generalize wr.drewN nq = wz at *
              have hRop := hRop'
              have hB := hB'
              have hyc : Hid (∀ W, Below w.heap.size w W → W.cell? ⟨yb, yo + j, none⟩ = some (.int .u8 yk)) := fun W hW => by rw [hYK.out]; exact hyc0.out W j hlt2 hW
              have hjk : (seg (fun i => y.getD i 0) k j).length = j - k := seg_len _ _ _
              go_wp2_with fail
              have hRd := hid (hRop.out.below ((Below.refl _ wz).drew))
              have hBd := hid (hB.out.trans ((Below.refl wz.heap.size wz).drew.mono hB.out.size))
              have hQ1 := hRd.out.q1
              refine wp_region_held_drew (S := fun W' => W'.cell? ⟨yb, yo + j, none⟩ = some (.int .u8 yk)) (by kernel_rfl) (hyc.out _ hBd.out) (fun hHeld => ?_)
              refine wpAnyH_take (i := 0) (v := ?_) (by simp only [List.getElem?_toArray, List.getElem?_cons_succ, List.getElem?_cons_zero]; rfl) (by kernel_rfl) (by kernel_rfl) (by kernel_rfl) (by intro _ _ _ h; exact h) (Or.inl ⟨by rfl, ?_⟩) (by assumption) ?_
              rotate_left
              · intro w' hSw; (try dsimp only at hSw); go_simp; (try with_reducible rfl)
              try simp only [Act.put, List.setIfInBounds_toArray, List.set_cons_zero, List.set_cons_succ]
              refine wpAnyH_take (i := 2) (v := ?_) (by simp only [List.getElem?_toArray, List.getElem?_cons_succ, List.getElem?_cons_zero]; rfl) (by kernel_rfl) (by kernel_rfl) (by kernel_rfl) (by intro _ _ _ h; exact h) (Or.inl ⟨by rfl, ?_⟩) (by assumption) ?_
              rotate_left
              · intro w' hSw; (try dsimp only at hSw); go_simp; (try with_reducible rfl)
              try simp only [Act.put, List.setIfInBounds_toArray, List.set_cons_zero, List.set_cons_succ]
              refine wpAnyH_take (i := 3) (v := ?_) (by simp only [List.getElem?_toArray, List.getElem?_cons_succ, List.getElem?_cons_zero]; rfl) (by kernel_rfl) (by kernel_rfl) (by kernel_rfl) (by intro _ _ _ h; exact h) (Or.inl ⟨by rfl, ?_⟩) (by assumption) ?_
              rotate_left
              · intro w' hSw; (try dsimp only at hSw); go_simp; (try with_reducible rfl)
              try simp only [Act.put, List.setIfInBounds_toArray, List.set_cons_zero, List.set_cons_succ]
              refine wpAnyH_take (i := 4) (v := ?_) (by simp only [List.getElem?_toArray, List.getElem?_cons_succ, List.getElem?_cons_zero]; rfl) (by kernel_rfl) (by kernel_rfl) (by kernel_rfl) (by intro _ _ _ h; exact h) (Or.inl ⟨by rfl, ?_⟩) (by assumption) ?_
              rotate_left
              · intro w' hSw; (try dsimp only at hSw); go_simp; (try with_reducible rfl)
              try simp only [Act.put, List.setIfInBounds_toArray, List.set_cons_zero, List.set_cons_succ]
              refine wpAnyH_take (i := 5) (v := ?_) (by simp only [List.getElem?_toArray, List.getElem?_cons_succ, List.getElem?_cons_zero]; rfl) (by kernel_rfl) (by kernel_rfl) (by kernel_rfl) (by intro _ _ _ h; exact h) (Or.inl ⟨by rfl, ?_⟩) (by assumption) ?_
              rotate_left
              · intro w' hSw; (try dsimp only at hSw); go_simp; (try with_reducible rfl)
              try simp only [Act.put, List.setIfInBounds_toArray, List.set_cons_zero, List.set_cons_succ]
              refine wpAnyH_ready (rs := [1, 6]) (by kernel_rfl) (by simp) ?_
              refine AllReadyH.cons (by simp only [List.getElem?_toArray, List.getElem?_cons_succ, List.getElem?_cons_zero]; rfl) (fun K hK => ?_) (AllReadyH.cons (by simp only [List.getElem?_toArray, List.getElem?_cons_succ, List.getElem?_cons_zero]; rfl) (fun K hK => ?_) AllReadyH.nil)
              · go_simp
                refine hK.out _ _ (hyc.out _ hBd.out) (fun hHeld => ?_)
                clear hK K
                try simp only [Act.put, List.setIfInBounds_toArray, List.set_cons_zero, List.set_cons_succ]
                refine wpAnyH_ready (rs := [6]) (by kernel_rfl) (by simp) ?_
                refine AllReadyH.cons (by simp only [List.getElem?_toArray, List.getElem?_cons_succ, List.getElem?_cons_zero]; rfl) (fun K hK => ?_) AllReadyH.nil
                go_simp
                refine hK.out _ _ (hyc.out _ (hBd.out.alloc hBd.out.size _)) (fun hHeld => ?_)
                clear hK K
                try simp only [Act.put, List.setIfInBounds_toArray, List.set_cons_zero, List.set_cons_succ]
                refine wpAnyH_ready (rs := [7]) (by kernel_rfl) (by simp) ?_
                refine AllReadyH.cons (by simp only [List.getElem?_toArray, List.getElem?_cons_succ, List.getElem?_cons_zero]; rfl) (fun K hK => ?_) AllReadyH.nil
                refine step_append_str rfl _ _ 23 rfl w.heap.size 5 5 (.int .u8 0) 1 1 1 Try.underlying23 (by kernel_rfl) rfl (by decide) (.slice cao (j - k) cc) (seg (fun i => y.getD i 0) k j).length _ [.int .u8 yk] (0, 0) hRd.out.ownC rfl (by simp [Value.oneCell']) (by rw [seg_len]; unfold maxLen; omega) (by rw [seg_len]; omega) hBd.out.size rfl rfl ?_
                intro cv' w3 hA3
                obtain ⟨cao', cc', hcv', -⟩ := own_any_shape hA3.own
                subst hcv'
                have hap := hRd.out.appended hA3
                have hB3 := hid (hBd.out.grown hA3.grown hBd.out.size (fun p hp => (hRd.out.ownC.lt p hp).1))
                have hqB := (hRd.out.ownQ.lt q rfl).1
                clear hA3
                obtain ⟨ha1, ha2, ha3⟩ := hap
                have hR3 := hid ha3
                clear ha3
                refine hK.out _ _ (hyc.out _ hB3.out) (fun hHeld => ?_)
                clear hK K
                try simp only [Act.put, List.setIfInBounds_toArray, List.set_cons_zero, List.set_cons_succ]
                refine wpAnyH_take (i := 8) (v := ?_) (by simp only [List.getElem?_toArray, List.getElem?_cons_succ, List.getElem?_cons_zero]; rfl) (by kernel_rfl) (by kernel_rfl) (by kernel_rfl) (by intro _ _ _ h; exact h) (Or.inl ⟨by rfl, ?_⟩) (by assumption) ?_
                rotate_left
                · intro w' hSw; (try dsimp only at hSw); go_simp; (try with_reducible rfl)
                try simp only [Act.put, List.setIfInBounds_toArray, List.set_cons_zero, List.set_cons_succ]
                refine wpAnyH_ready (rs := [9]) (by kernel_rfl) (by simp) ?_
                refine AllReadyH.cons (by simp only [List.getElem?_toArray, List.getElem?_cons_succ, List.getElem?_cons_zero]; rfl) (fun K hK => ?_) AllReadyH.nil
                go_simp
                have hB4 := hid (Below.setCell (p := ⟨q, 1, none⟩) hB3.out hqB (.slice cao' ((seg (fun i => y.getD i 0) k j).length + 1) cc'))
                refine hK.out _ _ (hyc.out _ hB4.out) (fun hHeld => ?_)
                clear hK K
                try simp only [Act.put, List.setIfInBounds_toArray, List.set_cons_zero, List.set_cons_succ]
                refine wpAnyH_done (by kernel_rfl) ?_ _
                go_wp2_with fail
                go_roundw
                case rel => exact ⟨j + 1, _, rfl, by omega, by omega, by go_num, by rw [seg_succ _ _ _ hkj, ← hYK.out]; exact hR3.out, fun t h1 h2 => by
                  by_cases ht : t < j
                  · exact hAll.out t h1 ht
                  · obtain rfl : t = j := by omega
                    exact hE2.out, hB4.out⟩
                case measure => simp [intOf]; omega
              · go_simp
                refine hK.out _ _ (hyc.out _ (hBd.out.alloc hBd.out.size _)) (fun hHeld => ?_)
                clear hK K
                try simp only [Act.put, List.setIfInBounds_toArray, List.set_cons_zero, List.set_cons_succ]
                refine wpAnyH_ready (rs := [1]) (by kernel_rfl) (by simp) ?_
                refine AllReadyH.cons (by simp only [List.getElem?_toArray, List.getElem?_cons_succ, List.getElem?_cons_zero]; rfl) (fun K hK => ?_) AllReadyH.nil
                have hQ1' : (wz.alloc (.cells #[.int .u8 yk] 5)).cell? ⟨q, 1, none⟩ = some (.slice cao (j - k) cc) := (hRop.out.below ((Below.refl _ _).alloc (Nat.le_refl _) _)).q1
                go_simp
                refine hK.out _ _ (hyc.out _ (hBd.out.alloc hBd.out.size _)) (fun hHeld => ?_)
                clear hK K
                try simp only [Act.put, List.setIfInBounds_toArray, List.set_cons_zero, List.set_cons_succ]
                refine wpAnyH_ready (rs := [7]) (by kernel_rfl) (by simp) ?_
                refine AllReadyH.cons (by simp only [List.getElem?_toArray, List.getElem?_cons_succ, List.getElem?_cons_zero]; rfl) (fun K hK => ?_) AllReadyH.nil
                refine step_append_str rfl _ _ 23 rfl w.heap.size 5 5 (.int .u8 0) 1 1 1 Try.underlying23 (by kernel_rfl) rfl (by decide) (.slice cao (j - k) cc) (seg (fun i => y.getD i 0) k j).length _ [.int .u8 yk] (0, 0) hRd.out.ownC rfl (by simp [Value.oneCell']) (by rw [seg_len]; unfold maxLen; omega) (by rw [seg_len]; omega) hBd.out.size rfl rfl ?_
                intro cv' w3 hA3
                obtain ⟨cao', cc', hcv', -⟩ := own_any_shape hA3.own
                subst hcv'
                have hap := hRd.out.appended hA3
                have hB3 := hid (hBd.out.grown hA3.grown hBd.out.size (fun p hp => (hRd.out.ownC.lt p hp).1))
                have hqB := (hRd.out.ownQ.lt q rfl).1
                clear hA3
                obtain ⟨ha1, ha2, ha3⟩ := hap
                have hR3 := hid ha3
                clear ha3
                refine hK.out _ _ (hyc.out _ hB3.out) (fun hHeld => ?_)
                clear hK K
                try simp only [Act.put, List.setIfInBounds_toArray, List.set_cons_zero, List.set_cons_succ]
                refine wpAnyH_take (i := 8) (v := ?_) (by simp only [List.getElem?_toArray, List.getElem?_cons_succ, List.getElem?_cons_zero]; rfl) (by kernel_rfl) (by kernel_rfl) (by kernel_rfl) (by intro _ _ _ h; exact h) (Or.inl ⟨by rfl, ?_⟩) (by assumption) ?_
                rotate_left
                · intro w' hSw; (try dsimp only at hSw); go_simp; (try with_reducible rfl)
                try simp only [Act.put, List.setIfInBounds_toArray, List.set_cons_zero, List.set_cons_succ]
                refine wpAnyH_ready (rs := [9]) (by kernel_rfl) (by simp) ?_
                refine AllReadyH.cons (by simp only [List.getElem?_toArray, List.getElem?_cons_succ, List.getElem?_cons_zero]; rfl) (fun K hK => ?_) AllReadyH.nil
                go_simp
                have hB4 := hid (Below.setCell (p := ⟨q, 1, none⟩) hB3.out hqB (.slice cao' ((seg (fun i => y.getD i 0) k j).length + 1) cc'))
                refine hK.out _ _ (hyc.out _ hB4.out) (fun hHeld => ?_)
                clear hK K
                try simp only [Act.put, List.setIfInBounds_toArray, List.set_cons_zero, List.set_cons_succ]
                refine wpAnyH_done (by kernel_rfl) ?_ _
                go_wp2_with fail
                go_roundw
                case rel => exact ⟨j + 1, _, rfl, by omega, by omega, by go_num, by rw [seg_succ _ _ _ hkj, ← hYK.out]; exact hR3.out, fun t h1 h2 => by
                  by_cases ht : t < j
                  · exact hAll.out t h1 ht
                  · obtain rfl : t = j := by omega
                    exact hE2.out, hB4.out⟩
                case measure => simp [intOf]; omega
          · obtain rfl : j = n := by omega
            have hq0 := hRop.out.q0
            have hq1 := hRop.out.q1
            have hkn : k < j := by omega
            go_wp2_with (at_builtin; go_must (refine wpList_append_str rfl _ _ 90 rfl w.heap.size 104 104 (.agg #[.int .u32 0, .slice none 0 0]) 2 32 1 Try.underlying90 (by kernel_rfl) rfl (by decide) _ R.length _ [.int .u32 k, .slice cao (j - k) cc] (0, 0) hRop.out.ownO rfl (by simp [Value.oneCell']) (by unfold maxLen; omega) (by omega) hsz rfl rfl ?_); intro v' w3 hA3)
            have hR3 := hid (hRop.out.close hA3)
            have hB3 := hid (hB.out.trans (hA3.below hRop.out.ownO hB.out.size))
            clear hA3
            go_roundw
            case rel => exact ⟨j + 1, _, _, rfl, by go_num, by omega, hR3.out, by rw [List.map_append, hMk.out, show min (j + 1) j = j by omega, runsD_seg' _ _ k j hGap.out hkn hAll.out]; rfl, .inr (.inl (by omega)), hB3.out⟩
            case measure => simp [intOf]; omega
    · go_wp2_with fail
      (try rw [Exit.noGoto_ret])
      go_ret2
      refine ⟨_, R, rfl, hRn.out, ?_, hB.out⟩
      rw [hM.out, hXY.out, show min k n = n by omega]
set_option maxHeartbeats 2000000 in
set_option maxRecDepth 100000 in
theorem runs54 (ao bo : Option Addr) (n c1 c2 : Nat) (x y : List Int) (w : World) (hx : n = x.length) (hy : n = y.length) (hn : n ≤ 100000000) (hi : Ints .u8 w ao x) (hj : Ints .u8 w bo y) :
    Calls Try.prog 54 #[.slice ao n c1, .slice bo n c2] w fun e w' => ∃ v R, e = .returned (.tuple #[v, .int .i64 0]) ∧ Rn w' w.heap.size v R ∧ R.map RunW.two = runsL x y ∧ Below w.heap.size w w' := by
  obtain ⟨xb, xo, hao, hcx⟩ := hi.at
  obtain ⟨yb, yo, hbo, hcy⟩ := hj.at
  have hxc : Hid (∀ W j, j < n → Below w.heap.size w W → W.cell? ⟨xb, xo + j, none⟩ = some (.int .u8 (x.getD j 0))) := fun W j hjn hb => (hb.cell (World.block_lt_of_cell? w _ (hcx.out j (by omega)))).trans (hcx.out j (by omega))
  have hyc0 : Hid (∀ W j, j < n → Below w.heap.size w W → W.cell? ⟨yb, yo + j, none⟩ = some (.int .u8 (y.getD j 0))) := fun W j hjn hb => (hb.cell (World.block_lt_of_cell? w _ (hcy.out j (by omega)))).trans (hcy.out j (by omega))
  have hXY := hid (show runsL x y = runsD (fun i => x.getD i 0) (fun i => y.getD i 0) n from by rw [hx]; rfl)
  rw [← hx] at hao
  rw [← hy] at hbo
  clear hi hj hcx hcy hx hy
  go_enter Try.func54, Try.ntmps54
  go_wp2_with fail
  go_loopw [6, 7] (fun v i wr => ∃ (k : Nat) (v0 : Value) (R : List RunW), v0 = v ∧ i = .int .i64 k ∧ k ≤ n ∧ Rn wr w.heap.size v0 R ∧ R.map RunW.two = runsD (fun i => x.getD i 0) (fun i => y.getD i 0) k ∧ (k = n ∨ x.getD k 0 = y.getD k 0 ∨ k = 0 ∨ x.getD (k - 1) 0 = y.getD (k - 1) 0) ∧ Below w.heap.size w wr) (fun _ i _ => n - (intOf i).toNat)
  case atStart => exact ⟨0, _, [], rfl, rfl, Nat.zero_le _, Rn.start _ _, by simp [runsD], .inr (.inr (.inl rfl)), Below.refl _ _⟩
  case round =>
    obtain ⟨k, v, R, rfl, rfl, hk, hr, hm, hg, hb⟩ := hrel
    have hRn := hid hr
    have hM := hid hm
    have hG := hid hg
    have hB := hid hb
    clear hr hm hg hb
    by_cases hlt : k < n
    · rcases hao with h0 | rfl
      · omega
      rcases hbo with h0 | rfl
      · omega
      have hcx := hxc.out wr k hlt hB.out
      have hcy := hyc0.out wr k hlt hB.out
      by_cases he : x.getD k 0 = y.getD k 0
      · have hE := hid he
        have hbq : (x.getD k 0 == y.getD k 0) = true := beq_iff_eq.2 he
        clear he
        obtain ⟨xk, hxk⟩ : ∃ z, z = x.getD k 0 := ⟨_, rfl⟩
        obtain ⟨yk, hyk⟩ : ∃ z, z = y.getD k 0 := ⟨_, rfl⟩
        rw [← hxk] at hcx hbq
        rw [← hyk] at hcy hbq
        clear hxk hyk
        go_wp2_with fail
        go_quiet ((fail))
        go_wp2_with fail
        go_roundw
        case rel => exact ⟨k + 1, _, R, rfl, by go_num, by omega, hRn.out.below (below_drewN' (Below.refl _ _) _), by rw [hM.out, runsD_next _ _ _ hE.out], .inr (.inr (.inr (by simpa using hE.out))), below_drewN' hB.out _⟩
        case measure => simp [intOf]; omega
      · have hE := hid he
        have hbq : (x.getD k 0 == y.getD k 0) = false := beq_eq_false_iff_ne.2 he
        clear he
        have hwk : IntKind.u32.wrap (k : Int) = k := by rw [IntKind.wrap_u32]; omega
        obtain ⟨xk, hxk⟩ : ∃ z, z = x.getD k 0 := ⟨_, rfl⟩
        obtain ⟨yk, hyk⟩ : ∃ z, z = y.getD k 0 := ⟨_, rfl⟩
        rw [← hxk] at hcx hbq
        rw [← hyk] at hcy hbq
        clear hxk hyk
        go_wp2_with fail
        go_quiet ((fail))
        have hRz := hid (hRn.out.below (below_drewN' (Below.refl wr.heap.size wr) nq))
        have hBz := hid (below_drewN' hB.out nq)
        generalize wr.drewN nq = wz at *
        clear hcx hcy hbq
        have hRo := hid (hRz.out.open hBz.out.size k)
        have hBo := hid (hBz.out.alloc hBz.out.size (.cells #[.int .u32 k, .slice none 0 0] 104))
        have hGap : Hid (k = 0 ∨ x.getD (k - 1) 0 = y.getD (k - 1) 0) := by
          rcases hG.out with h | h | h
          · omega
          · exact absurd h hE.out
          · exact h
        clear hRn hG hB hRz hBz
        go_wp2_with fail
        clear hwk
        generalize wz.heap.size = q at *
        generalize wz.alloc (.cells #[.int .u32 k, .slice none 0 0] 104) = wo at *
        go_loopw [7] (fun i wr => ∃ (j : Nat) (cv : Value), k ≤ j ∧ j ≤ n ∧ i = .int .i64 j ∧ Rop wr w.heap.size v q cv R k (seg (fun i => y.getD i 0) k j) ∧ (∀ t, k ≤ t → t < j → x.getD t 0 ≠ y.getD t 0) ∧ Below w.heap.size w wr) (fun i _ => n - (intOf i).toNat)
        case atStart => exact ⟨k, _, Nat.le_refl _, by omega, rfl, by simpa [seg] using hRo.out, fun t h1 h2 => by omega, hBo.out⟩
        case round =>
          clear hRo hBo
          obtain ⟨j, cv, hkj, hjn, rfl, hrop, hall, hb⟩ := hrel
          have hRop := hid hrop
          have hAll := hid hall
          have hB := hid hb
          have hsz := hb.size
          obtain ⟨cao, cc, hcv, -⟩ := own_any_shape hrop.ownC
          rw [seg_len] at hcv
          subst hcv
          have hRl : R.length ≤ n := by
            have h1 := congrArg List.length hM.out
            have h2 := runsD_len (fun i => x.getD i 0) (fun i => y.getD i 0) k
            rw [List.length_map] at h1
            omega
          clear hrop hall hb
          by_cases hlt2 : j < n
          · have hcx := hxc.out wr j hlt2 hB.out
            have hcy := hyc0.out wr j hlt2 hB.out
            by_cases he : x.getD j 0 = y.getD j 0
            · have hkj2 : k < j := by
                rcases Nat.lt_or_ge k j with h | h
                · exact h
                · obtain rfl : k = j := by omega
                  exact absurd he hE.out
              have hE2 := hid he
              have hbq : (x.getD j 0 != y.getD j 0) = false := by rw [bne, beq_iff_eq.2 he]; rfl
              clear he
              obtain ⟨xk, hxk⟩ : ∃ z, z = x.getD j 0 := ⟨_, rfl⟩
              obtain ⟨yk, hyk⟩ : ∃ z, z = y.getD j 0 := ⟨_, rfl⟩
              rw [← hxk] at hcx hbq
              rw [← hyk] at hcy hbq
              clear hxk hyk
              go_wp2_with fail
              go_quiet ((fail))
              have hRop' := hid (hRop.out.below (below_drewN' (Below.refl wr.heap.size wr) nq))
              have hB' := hid (below_drewN' hB.out nq)
              have hsz' := hB'.out.size
              clear hRop hB hsz hcx hcy hbq
              generalize wr.drewN nq = wz at *
              have hRop := hRop'
              have hB := hB'
              have hsz := hsz'
              have hq0 := hRop.out.q0
              have hq1 := hRop.out.q1
              go_wp2_with (at_builtin; go_must (refine wpList_append_str rfl _ _ 90 rfl w.heap.size 104 104 (.agg #[.int .u32 0, .slice none 0 0]) 2 32 1 Try.underlying90 (by kernel_rfl) rfl (by decide) _ R.length _ [.int .u32 k, .slice cao (j - k) cc] (0, 0) hRop.out.ownO rfl (by simp [Value.oneCell']) (by unfold maxLen; omega) (by omega) hsz rfl rfl ?_); intro v' w3 hA3)
              have hR3 := hid (hRop.out.close hA3)
              have hB3 := hid (hB.out.trans (hA3.below hRop.out.ownO hB.out.size))
              clear hA3
              go_roundw
              case rel => exact ⟨j, _, _, rfl, by go_num, by omega, hR3.out, by rw [List.map_append, hM.out, runsD_seg' _ _ k j hGap.out hkj2 hAll.out]; rfl, .inr (.inl hE2.out), hB3.out⟩
              case measure => simp [intOf]; omega
            · have hE2 := hid he
              have hbq : (x.getD j 0 != y.getD j 0) = true := by rw [bne, beq_eq_false_iff_ne.2 he]; rfl
              clear he
              obtain ⟨xk, hxk⟩ : ∃ z, z = x.getD j 0 := ⟨_, rfl⟩
              obtain ⟨yk, hyk⟩ : ∃ z, z = y.getD j 0 := ⟨_, rfl⟩
              have hYK := hid hyk
              rw [← hxk] at hcx hbq
              rw [← hyk] at hcy hbq
              clear hxk hyk
              go_wp2_with fail
              go_quiet ((fail))
              have hRop' := hid (hRop.out.below (below_drewN' (Below.refl wr.heap.size wr) nq))
              have hB' := hid (below_drewN' hB.out nq)
              clear hRop hB hsz hcx hcy hbq
              generalize wr.drewN nq = wz at *
              have hRop := hRop'
              have hB := hB'
              have hyc : Hid (∀ W, Below w.heap.size w W → W.cell? ⟨yb, yo + j, none⟩ = some (.int .u8 yk)) := fun W hW => by rw [hYK.out]; exact hyc0.out W j hlt2 hW
              have hjk : (seg (fun i => y.getD i 0) k j).length = j - k := seg_len _ _ _
              go_wp2_with fail
              have hRd := hid (hRop.out.below ((Below.refl _ wz).drew))
              have hBd := hid (hB.out.trans ((Below.refl wz.heap.size wz).drew.mono hB.out.size))
              have hQ1 := hRd.out.q1
              refine wp_region_held_drew (S := fun W' => W'.cell? ⟨yb, yo + j, none⟩ = some (.int .u8 yk)) (by kernel_rfl) (hyc.out _ hBd.out) (fun hHeld => ?_)
              refine wpAnyH_take (i := 0) (v := ?_) (by simp only [List.getElem?_toArray, List.getElem?_cons_succ, List.getElem?_cons_zero]; rfl) (by kernel_rfl) (by kernel_rfl) (by kernel_rfl) (by intro _ _ _ h; exact h) (Or.inl ⟨by rfl, ?_⟩) (by assumption) ?_
              rotate_left
              · intro w' hSw; (try dsimp only at hSw); go_simp; (try with_reducible rfl)
              try simp only [Act.put, List.setIfInBounds_toArray, List.set_cons_zero, List.set_cons_succ]
              refine wpAnyH_take (i := 2) (v := ?_) (by simp only [List.getElem?_toArray, List.getElem?_cons_succ, List.getElem?_cons_zero]; rfl) (by kernel_rfl) (by kernel_rfl) (by kernel_rfl) (by intro _ _ _ h; exact h) (Or.inl ⟨by rfl, ?_⟩) (by assumption) ?_
              rotate_left
              · intro w' hSw; (try dsimp only at hSw); go_simp; (try with_reducible rfl)
              try simp only [Act.put, List.setIfInBounds_toArray, List.set_cons_zero, List.set_cons_succ]
              refine wpAnyH_take (i := 3) (v := ?_) (by simp only [List.getElem?_toArray, List.getElem?_cons_succ, List.getElem?_cons_zero]; rfl) (by kernel_rfl) (by kernel_rfl) (by kernel_rfl) (by intro _ _ _ h; exact h) (Or.inl ⟨by rfl, ?_⟩) (by assumption) ?_
              rotate_left
              · intro w' hSw; (try dsimp only at hSw); go_simp; (try with_reducible rfl)
              try simp only [Act.put, List.setIfInBounds_toArray, List.set_cons_zero, List.set_cons_succ]
              refine wpAnyH_take (i := 4) (v := ?_) (by simp only [List.getElem?_toArray, List.getElem?_cons_succ, List.getElem?_cons_zero]; rfl) (by kernel_rfl) (by kernel_rfl) (by kernel_rfl) (by intro _ _ _ h; exact h) (Or.inl ⟨by rfl, ?_⟩) (by assumption) ?_
              rotate_left
              · intro w' hSw; (try dsimp only at hSw); go_simp; (try with_reducible rfl)
              try simp only [Act.put, List.setIfInBounds_toArray, List.set_cons_zero, List.set_cons_succ]
              refine wpAnyH_take (i := 5) (v := ?_) (by simp only [List.getElem?_toArray, List.getElem?_cons_succ, List.getElem?_cons_zero]; rfl) (by kernel_rfl) (by kernel_rfl) (by kernel_rfl) (by intro _ _ _ h; exact h) (Or.inl ⟨by rfl, ?_⟩) (by assumption) ?_
              rotate_left
              · intro w' hSw; (try dsimp only at hSw); go_simp; (try with_reducible rfl)
              try simp only [Act.put, List.setIfInBounds_toArray, List.set_cons_zero, List.set_cons_succ]
              refine wpAnyH_ready (rs := [1, 6]) (by kernel_rfl) (by simp) ?_
              refine AllReadyH.cons (by simp only [List.getElem?_toArray, List.getElem?_cons_succ, List.getElem?_cons_zero]; rfl) (fun K hK => ?_) (AllReadyH.cons (by simp only [List.getElem?_toArray, List.getElem?_cons_succ, List.getElem?_cons_zero]; rfl) (fun K hK => ?_) AllReadyH.nil)
              · go_simp
                refine hK.out _ _ (hyc.out _ hBd.out) (fun hHeld => ?_)
                clear hK K
                try simp only [Act.put, List.setIfInBounds_toArray, List.set_cons_zero, List.set_cons_succ]
                refine wpAnyH_ready (rs := [6]) (by kernel_rfl) (by simp) ?_
                refine AllReadyH.cons (by simp only [List.getElem?_toArray, List.getElem?_cons_succ, List.getElem?_cons_zero]; rfl) (fun K hK => ?_) AllReadyH.nil
                go_simp
                refine hK.out _ _ (hyc.out _ (hBd.out.alloc hBd.out.size _)) (fun hHeld => ?_)
                clear hK K
                try simp only [Act.put, List.setIfInBounds_toArray, List.set_cons_zero, List.set_cons_succ]
                refine wpAnyH_ready (rs := [7]) (by kernel_rfl) (by simp) ?_
                refine AllReadyH.cons (by simp only [List.getElem?_toArray, List.getElem?_cons_succ, List.getElem?_cons_zero]; rfl) (fun K hK => ?_) AllReadyH.nil
                refine step_append_str rfl _ _ 23 rfl w.heap.size 5 5 (.int .u8 0) 1 1 1 Try.underlying23 (by kernel_rfl) rfl (by decide) (.slice cao (j - k) cc) (seg (fun i => y.getD i 0) k j).length _ [.int .u8 yk] (0, 0) hRd.out.ownC rfl (by simp [Value.oneCell']) (by rw [seg_len]; unfold maxLen; omega) (by rw [seg_len]; omega) hBd.out.size rfl rfl ?_
                intro cv' w3 hA3
                obtain ⟨cao', cc', hcv', -⟩ := own_any_shape hA3.own
                subst hcv'
                have hap := hRd.out.appended hA3
                have hB3 := hid (hBd.out.grown hA3.grown hBd.out.size (fun p hp => (hRd.out.ownC.lt p hp).1))
                have hqB := (hRd.out.ownQ.lt q rfl).1
                clear hA3
                obtain ⟨ha1, ha2, ha3⟩ := hap
                have hR3 := hid ha3
                clear ha3
                refine hK.out _ _ (hyc.out _ hB3.out) (fun hHeld => ?_)
                clear hK K
                try simp only [Act.put, List.setIfInBounds_toArray, List.set_cons_zero, List.set_cons_succ]
                refine wpAnyH_take (i := 8) (v := ?_) (by simp only [List.getElem?_toArray, List.getElem?_cons_succ, List.getElem?_cons_zero]; rfl) (by kernel_rfl) (by kernel_rfl) (by kernel_rfl) (by intro _ _ _ h; exact h) (Or.inl ⟨by rfl, ?_⟩) (by assumption) ?_
                rotate_left
                · intro w' hSw; (try dsimp only at hSw); go_simp; (try with_reducible rfl)
                try simp only [Act.put, List.setIfInBounds_toArray, List.set_cons_zero, List.set_cons_succ]
                refine wpAnyH_ready (rs := [9]) (by kernel_rfl) (by simp) ?_
                refine AllReadyH.cons (by simp only [List.getElem?_toArray, List.getElem?_cons_succ, List.getElem?_cons_zero]; rfl) (fun K hK => ?_) AllReadyH.nil
                go_simp
                have hB4 := hid (Below.setCell (p := ⟨q, 1, none⟩) hB3.out hqB (.slice cao' ((seg (fun i => y.getD i 0) k j).length + 1) cc'))
                refine hK.out _ _ (hyc.out _ hB4.out) (fun hHeld => ?_)
                clear hK K
                try simp only [Act.put, List.setIfInBounds_toArray, List.set_cons_zero, List.set_cons_succ]
                refine wpAnyH_done (by kernel_rfl) ?_ _
                go_wp2_with fail
                go_roundw
                case rel => exact ⟨j + 1, _, by omega, by omega, by go_num, by rw [seg_succ _ _ _ hkj, ← hYK.out]; exact hR3.out, fun t h1 h2 => by
                  by_cases ht : t < j
                  · exact hAll.out t h1 ht
                  · obtain rfl : t = j := by omega
                    exact hE2.out, hB4.out⟩
                case measure => simp [intOf]; omega
              · go_simp
                refine hK.out _ _ (hyc.out _ (hBd.out.alloc hBd.out.size _)) (fun hHeld => ?_)
                clear hK K
                try simp only [Act.put, List.setIfInBounds_toArray, List.set_cons_zero, List.set_cons_succ]
                refine wpAnyH_ready (rs := [1]) (by kernel_rfl) (by simp) ?_
                refine AllReadyH.cons (by simp only [List.getElem?_toArray, List.getElem?_cons_succ, List.getElem?_cons_zero]; rfl) (fun K hK => ?_) AllReadyH.nil
                have hQ1' : (wz.alloc (.cells #[.int .u8 yk] 5)).cell? ⟨q, 1, none⟩ = some (.slice cao (j - k) cc) := (hRop.out.below ((Below.refl _ _).alloc (Nat.le_refl _) _)).q1
                go_simp
                refine hK.out _ _ (hyc.out _ (hBd.out.alloc hBd.out.size _)) (fun hHeld => ?_)
                clear hK K
                try simp only [Act.put, List.setIfInBounds_toArray, List.set_cons_zero, List.set_cons_succ]
                refine wpAnyH_ready (rs := [7]) (by kernel_rfl) (by simp) ?_
                refine AllReadyH.cons (by simp only [List.getElem?_toArray, List.getElem?_cons_succ, List.getElem?_cons_zero]; rfl) (fun K hK => ?_) AllReadyH.nil
                refine step_append_str rfl _ _ 23 rfl w.heap.size 5 5 (.int .u8 0) 1 1 1 Try.underlying23 (by kernel_rfl) rfl (by decide) (.slice cao (j - k) cc) (seg (fun i => y.getD i 0) k j).length _ [.int .u8 yk] (0, 0) hRd.out.ownC rfl (by simp [Value.oneCell']) (by rw [seg_len]; unfold maxLen; omega) (by rw [seg_len]; omega) hBd.out.size rfl rfl ?_
                intro cv' w3 hA3
                obtain ⟨cao', cc', hcv', -⟩ := own_any_shape hA3.own
                subst hcv'
                have hap := hRd.out.appended hA3
                have hB3 := hid (hBd.out.grown hA3.grown hBd.out.size (fun p hp => (hRd.out.ownC.lt p hp).1))
                have hqB := (hRd.out.ownQ.lt q rfl).1
                clear hA3
                obtain ⟨ha1, ha2, ha3⟩ := hap
                have hR3 := hid ha3
                clear ha3
                refine hK.out _ _ (hyc.out _ hB3.out) (fun hHeld => ?_)
                clear hK K
                try simp only [Act.put, List.setIfInBounds_toArray, List.set_cons_zero, List.set_cons_succ]
                refine wpAnyH_take (i := 8) (v := ?_) (by simp only [List.getElem?_toArray, List.getElem?_cons_succ, List.getElem?_cons_zero]; rfl) (by kernel_rfl) (by kernel_rfl) (by kernel_rfl) (by intro _ _ _ h; exact h) (Or.inl ⟨by rfl, ?_⟩) (by assumption) ?_
                rotate_left
                · intro w' hSw; (try dsimp only at hSw); go_simp; (try with_reducible rfl)
                try simp only [Act.put, List.setIfInBounds_toArray, List.set_cons_zero, List.set_cons_succ]
                refine wpAnyH_ready (rs := [9]) (by kernel_rfl) (by simp) ?_
                refine AllReadyH.cons (by simp only [List.getElem?_toArray, List.getElem?_cons_succ, List.getElem?_cons_zero]; rfl) (fun K hK => ?_) AllReadyH.nil
                go_simp
                have hB4 := hid (Below.setCell (p := ⟨q, 1, none⟩) hB3.out hqB (.slice cao' ((seg (fun i => y.getD i 0) k j).length + 1) cc'))
                refine hK.out _ _ (hyc.out _ hB4.out) (fun hHeld => ?_)
                clear hK K
                try simp only [Act.put, List.setIfInBounds_toArray, List.set_cons_zero, List.set_cons_succ]
                refine wpAnyH_done (by kernel_rfl) ?_ _
                go_wp2_with fail
                go_roundw
                case rel => exact ⟨j + 1, _, by omega, by omega, by go_num, by rw [seg_succ _ _ _ hkj, ← hYK.out]; exact hR3.out, fun t h1 h2 => by
                  by_cases ht : t < j
                  · exact hAll.out t h1 ht
                  · obtain rfl : t = j := by omega
                    exact hE2.out, hB4.out⟩
                case measure => simp [intOf]; omega
          · obtain rfl : j = n := by omega
            have hkn : k < j := by omega
            go_wp2_with fail
            go_quiet ((fail))
            have hRop' := hid (hRop.out.below (below_drewN' (Below.refl wr.heap.size wr) nq))
            have hB' := hid (below_drewN' hB.out nq)
            have hsz' := hB'.out.size
            clear hRop hB hsz
            generalize wr.drewN nq = wz at *
            have hRop := hRop'
            have hB := hB'
            have hsz := hsz'
            have hq0 := hRop.out.q0
            have hq1 := hRop.out.q1
            go_wp2_with (at_builtin; go_must (refine wpList_append_str rfl _ _ 90 rfl w.heap.size 104 104 (.agg #[.int .u32 0, .slice none 0 0]) 2 32 1 Try.underlying90 (by kernel_rfl) rfl (by decide) _ R.length _ [.int .u32 k, .slice cao (j - k) cc] (0, 0) hRop.out.ownO rfl (by simp [Value.oneCell']) (by unfold maxLen; omega) (by omega) hsz rfl rfl ?_); intro v' w3 hA3)
            have hR3 := hid (hRop.out.close hA3)
            have hB3 := hid (hB.out.trans (hA3.below hRop.out.ownO hB.out.size))
            clear hA3
            go_roundw
            case rel => exact ⟨j, _, _, rfl, by go_num, by omega, hR3.out, by rw [List.map_append, hM.out, runsD_seg' _ _ k j hGap.out hkn hAll.out]; rfl, .inl rfl, hB3.out⟩
            case measure => simp [intOf]; omega
    · obtain rfl : k = n := by omega
      go_wp2_with fail
      go_ret2
      refine ⟨_, rfl, R, hRn.out, ?_, hB.out⟩
      rw [hM.out, hXY.out]
end Go.Proofs.Ytdhicfolchpmhaa
