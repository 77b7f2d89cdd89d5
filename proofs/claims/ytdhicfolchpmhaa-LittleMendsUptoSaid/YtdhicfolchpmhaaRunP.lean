/- Plain lemmas: runs and mending. No program. -/
import Derived.Test.YtdhicfolchpmhaaPure
namespace Go.Proofs.Ytdhicfolchpmhaa
set_option linter.unusedVariables false

abbrev Runz := List (Nat × List Int)
/-- one byte more -/
def extR (rs : Runz) (k : Nat) (b : Int) : Runz := match rs.getLast? with
  | some (s, l) => if s + l.length = k then rs.dropLast ++ [(s, l ++ [b])] else rs ++ [(k, [b])]
  | none => rs ++ [(k, [b])]
/-- the runs in which f and g differ below k -/
def runsD (f g : Nat → Int) : Nat → Runz
  | 0 => []
  | k + 1 => if f k = g k then runsD f g k else extR (runsD f g k) k (g k)

theorem extR_end {rs : Runz} {k : Nat} {b : Int} (h : ∀ x ∈ rs, x.1 + x.2.length ≤ k) : ∀ x ∈ extR rs k b, x.1 + x.2.length ≤ k + 1 := by
  intro x hx
  unfold extR at hx
  split at hx
  · rename_i s l hl
    split at hx
    · rename_i he
      rcases List.mem_append.1 hx with h1 | h1
      · have := h x (List.dropLast_subset _ h1); omega
      · rw [List.mem_singleton.1 h1]; simp; omega
    · rcases List.mem_append.1 hx with h1 | h1
      · have := h x h1; omega
      · rw [List.mem_singleton.1 h1]; simp
  · rcases List.mem_append.1 hx with h1 | h1
    · have := h x h1; omega
    · rw [List.mem_singleton.1 h1]; simp
theorem runsD_end (f g : Nat → Int) : ∀ k, ∀ x ∈ runsD f g k, x.1 + x.2.length ≤ k
  | 0, x, hx => by simp [runsD] at hx
  | k + 1, x, hx => by
    unfold runsD at hx
    split at hx
    · have := runsD_end f g k x hx; omega
    · exact extR_end (runsD_end f g k) x hx
theorem runsD_gap (f g : Nat → Int) (k : Nat) (hk : k = 0 ∨ f (k - 1) = g (k - 1)) : ∀ x ∈ runsD f g k, x.1 + x.2.length ≠ k := by
  intro x hx
  cases k with
  | zero => simp [runsD] at hx
  | succ k =>
    have h : f k = g k := by rcases hk with h | h; · omega
                             · simpa using h
    rw [runsD, if_pos h] at hx
    have := runsD_end f g k x hx
    omega

theorem extR_new {rs : Runz} {k : Nat} {b : Int} (h : ∀ x ∈ rs, x.1 + x.2.length ≠ k) : extR rs k b = rs ++ [(k, [b])] := by
  unfold extR
  split
  · rename_i s l hl
    rw [if_neg (h _ (List.mem_of_getLast? hl))]
  · rfl
theorem extR_more (rs : Runz) (s : Nat) (l : List Int) (k : Nat) (b : Int) (h : s + l.length = k) : extR (rs ++ [(s, l)]) k b = rs ++ [(s, l ++ [b])] := by
  unfold extR
  rw [List.getLast?_append]
  simp [h]

/-- a stretch in which all differ, behind a place where they do not -/
theorem runsD_seg (f g : Nat → Int) (i : Nat) (hi : i = 0 ∨ f (i - 1) = g (i - 1)) : ∀ m, (∀ t, t < m + 1 → f (i + t) ≠ g (i + t)) → runsD f g (i + (m + 1)) = runsD f g i ++ [(i, (List.range (m + 1)).map fun t => g (i + t))]
  | 0, h => by
    have h0 := h 0 (by omega)
    rw [show i + (0 + 1) = i + 1 from rfl, runsD, if_neg (by simpa using h0), extR_new (runsD_gap f g i hi)]
    simp
  | m + 1, h => by
    have ih := runsD_seg f g i hi m (fun t ht => h t (by omega))
    have h0 := h (m + 1) (by omega)
    rw [show i + (m + 1 + 1) = (i + (m + 1)) + 1 from rfl, runsD, if_neg h0, ih, extR_more _ _ _ _ _ (by simp)]
    rw [List.range_succ (n := m + 1), List.map_append]
    simp

/-- x laid over b from place s on -/
def laid (b : List Int) (s : Nat) (x : List Int) : List Int := b.take s ++ x ++ b.drop (s + x.length)
def mendR (b : List Int) (rs : Runz) : List Int := rs.foldl (fun b r => laid b r.1 r.2) b
/-- may the runs be laid over n bytes? -/
def okR (n : Nat) : Nat → Runz → Bool
  | _, [] => true
  | last, (s, l) :: rs => decide (0 < l.length) && decide (last ≤ s) && decide (s + l.length ≤ n) && okR n (s + l.length) rs
def weigh (rs : Runz) : Nat := (rs.map (fun r => r.2.length)).sum
def endR (last : Nat) (rs : Runz) : Nat := rs.foldl (fun _ r => r.1 + r.2.length) last

theorem laid_len (b : List Int) (s : Nat) (x : List Int) (h : s + x.length ≤ b.length) : (laid b s x).length = b.length := by
  simp [laid]; omega
theorem laid_get (b : List Int) (s : Nat) (x : List Int) (h : s + x.length ≤ b.length) (i : Nat) : (laid b s x).getD i 0 = if s ≤ i ∧ i < s + x.length then x.getD (i - s) 0 else b.getD i 0 := by
  simp only [laid, List.getD, List.append_assoc]
  by_cases h1 : i < s
  · rw [if_neg (by omega), List.getElem?_append_left (by simp; omega), List.getElem?_take, if_pos h1]
  · rw [List.getElem?_append_right (by simp; omega)]
    have e : (b.take s).length = s := by simp; omega
    rw [e]
    by_cases h2 : i < s + x.length
    · rw [if_pos (by omega), List.getElem?_append_left (by omega)]
    · rw [if_neg (by omega), List.getElem?_append_right (by omega), List.getElem?_drop, show s + x.length + (i - s - x.length) = i by omega]
theorem laid_snoc (b : List Int) (s : Nat) (x : List Int) (y : Int) (h : s + x.length < b.length) : laid b s (x ++ [y]) = laid (laid b s x) (s + x.length) [y] := by
  have hl := laid_len b s x (by omega)
  apply List.ext_getElem?
  intro i
  have h1 := laid_get b s (x ++ [y]) (by simp; omega) i
  have h2 := laid_get (laid b s x) (s + x.length) [y] (by rw [hl]; simp; omega) i
  have h3 := laid_get b s x (by omega) i
  have l1 : (laid b s (x ++ [y])).length = b.length := laid_len _ _ _ (by simp; omega)
  have l2 : (laid (laid b s x) (s + x.length) [y]).length = b.length := by rw [laid_len _ _ _ (by rw [hl]; simp; omega), hl]
  by_cases hi : i < b.length
  · rw [List.getElem?_eq_getElem (by omega), List.getElem?_eq_getElem (by omega)]
    simp only [List.getD, List.getElem?_eq_getElem (show i < (laid b s (x ++ [y])).length by omega), List.getElem?_eq_getElem (show i < (laid (laid b s x) (s + x.length) [y]).length by omega), Option.getD_some] at h1 h2
    simp only [List.getD] at h3
    rw [h1, h2]
    simp only [List.length_append, List.length_singleton]
    by_cases c1 : i < s + x.length
    · by_cases c2 : s ≤ i
      · rw [if_pos (by omega), if_neg (by omega), h3, if_pos (by omega)]
        rw [List.getElem?_append_left (by omega)]
      · rw [if_neg (by omega), if_neg (by omega), h3, if_neg (by omega)]
    · by_cases c2 : i = s + x.length
      · subst c2
        rw [if_pos (by omega), if_pos (by omega), List.getElem?_append_right (by omega)]
        simp
      · rw [if_neg (by omega), if_neg (by omega), h3, if_neg (by omega)]
  · rw [List.getElem?_eq_none (by omega), List.getElem?_eq_none (by omega)]

theorem mendR_append (b : List Int) (rs qs : Runz) : mendR b (rs ++ qs) = mendR (mendR b rs) qs := by simp [mendR]
theorem endR_append (a : Nat) (rs qs : Runz) : endR a (rs ++ qs) = endR (endR a rs) qs := by simp [endR]
theorem okR_append (n : Nat) : ∀ (rs : Runz) (a : Nat) (qs : Runz), okR n a (rs ++ qs) = (okR n a rs && okR n (endR a rs) qs)
  | [], a, qs => by simp [okR, endR]
  | (s, l) :: rs, a, qs => by
    simp only [List.cons_append, okR, okR_append n rs, Bool.and_assoc]
    rfl
theorem mendR_len {n : Nat} : ∀ (rs : Runz) (a : Nat) (b : List Int), b.length = n → okR n a rs = true → (mendR b rs).length = n
  | [], _, b, hb, _ => hb
  | (s, l) :: rs, a, b, hb, h => by
    simp only [okR, Bool.and_eq_true, decide_eq_true_eq] at h
    exact mendR_len rs _ (laid b s l) (by rw [laid_len _ _ _ (by omega), hb]) h.2
theorem weigh_append (rs qs : Runz) : weigh (rs ++ qs) = weigh rs + weigh qs := by simp [weigh]

/-- how many places below k differ -/
def diffs (f g : Nat → Int) : Nat → Nat
  | 0 => 0
  | k + 1 => diffs f g k + if f k = g k then 0 else 1

/-- the runs between two lists lead from the one to the other, may be laid, and have just the bytes that differ -/
theorem runsD_ok (x y : List Int) (hxy : x.length = y.length) : ∀ k, k ≤ x.length →
    mendR x (runsD (fun i => x.getD i 0) (fun i => y.getD i 0) k) = y.take k ++ x.drop k ∧ okR x.length 0 (runsD (fun i => x.getD i 0) (fun i => y.getD i 0) k) = true
      ∧ endR 0 (runsD (fun i => x.getD i 0) (fun i => y.getD i 0) k) ≤ k ∧ weigh (runsD (fun i => x.getD i 0) (fun i => y.getD i 0) k) = diffs (fun i => x.getD i 0) (fun i => y.getD i 0) k
  | 0, _ => by simp [runsD, mendR, okR, endR, weigh, diffs]
  | k + 1, hk => by
    obtain ⟨h1, h2, h3, h4⟩ := runsD_ok x y hxy k (by omega)
    have hend := runsD_end (fun i => x.getD i 0) (fun i => y.getD i 0) k
    have hx : x.getD k 0 = x[k] := by simp [List.getD, List.getElem?_eq_getElem (show k < x.length by omega)]
    have hy : y.getD k 0 = y[k] := by simp [List.getD, List.getElem?_eq_getElem (show k < y.length by omega)]
    have dx : x.drop k = x[k] :: x.drop (k + 1) := List.drop_eq_getElem_cons (by omega)
    have ty : y.take (k + 1) = y.take k ++ [y[k]] := by rw [List.take_add_one, List.getElem?_eq_getElem (show k < y.length by omega)]; rfl
    have tl : (y.take k).length = k := by simp; omega
    have one : laid (y.take k ++ x.drop k) k [y[k]] = y.take (k + 1) ++ x.drop (k + 1) := by
      have e1 : (y.take k ++ x.drop k).take k = y.take k := by rw [List.take_append_of_le_length (by omega), List.take_of_length_le (by omega)]
      have e2 : (y.take k ++ x.drop k).drop (k + 1) = x.drop (k + 1) := by
        rw [List.drop_append, List.drop_eq_nil_of_le (by omega), tl, List.nil_append, List.drop_drop, show k + (k + 1 - k) = k + 1 by omega]
      unfold laid
      rw [List.length_singleton, e1, e2, ty]
    rw [runsD, diffs]
    simp only [hx, hy]
    by_cases he : x[k] = y[k]
    · rw [if_pos he, if_pos he]
      refine ⟨?_, h2, by omega, h4⟩
      rw [h1, dx, he, ty, List.append_assoc]
      rfl
    · rw [if_neg he, if_neg he]
      obtain ⟨rs, hrs⟩ : ∃ rs, rs = runsD (fun i => x.getD i 0) (fun i => y.getD i 0) k := ⟨_, rfl⟩
      rw [← hrs] at h1 h2 h3 h4 hend ⊢
      have new : extR rs k y[k] = rs ++ [(k, [y[k]])] → (mendR x (extR rs k y[k]) = y.take (k + 1) ++ x.drop (k + 1) ∧ okR x.length 0 (extR rs k y[k]) = true ∧ endR 0 (extR rs k y[k]) ≤ k + 1 ∧ weigh (extR rs k y[k]) = diffs (fun i => x.getD i 0) (fun i => y.getD i 0) k + 1) := fun e => by
        rw [e]
        refine ⟨?_, ?_, ?_, ?_⟩
        · rw [mendR_append, h1]; exact one
        · rw [okR_append, h2]; simp [okR]; omega
        · rw [endR_append]; simp [endR]
        · rw [weigh_append, h4]; simp [weigh]
      cases hl : rs.getLast? with
      | none =>
        have : rs = [] := List.getLast?_eq_none_iff.1 hl
        subst this
        exact new (by simp [extR])
      | some sl =>
        obtain ⟨s, l⟩ := sl
        by_cases hs : s + l.length = k
        · obtain ⟨qs, rfl⟩ : ∃ qs, rs = qs ++ [(s, l)] := List.getLast?_eq_some_iff.1 hl
          rw [extR_more _ _ _ _ _ hs]
          rw [mendR_append] at h1
          rw [okR_append] at h2
          rw [weigh_append] at h4
          simp only [okR, Bool.and_eq_true, decide_eq_true_eq, Bool.and_true] at h2
          have hm : (mendR x qs).length = x.length := mendR_len qs 0 x rfl h2.1
          refine ⟨?_, ?_, ?_, ?_⟩
          · rw [mendR_append]
            show laid (mendR x qs) s (l ++ [y[k]]) = _
            rw [laid_snoc _ _ _ _ (by omega), hs]
            have : laid (mendR x qs) s l = y.take k ++ x.drop k := h1
            rw [this]
            exact one
          · rw [okR_append, h2.1]
            simp [okR]
            omega
          · rw [endR_append]; simp [endR]; omega
          · rw [weigh_append]; simp [weigh] at h4 ⊢; omega
        · exact new (by unfold extR; rw [hl]; simp [hs])

theorem diffs_le {f g : Nat → Int} {s m : Nat} (h : ∀ i, ¬ (s ≤ i ∧ i < s + m) → f i = g i) : ∀ k, diffs f g k ≤ min (k - s) m
  | 0 => by simp [diffs]
  | k + 1 => by
    have ih := diffs_le h k
    rw [diffs]
    by_cases hk : s ≤ k ∧ k < s + m
    · have : (if f k = g k then 0 else 1) ≤ 1 := by split <;> omega
      omega
    · rw [if_pos (h k hk)]; omega
theorem diffs_tri (f g h : Nat → Int) : ∀ k, diffs f h k ≤ diffs f g k + diffs g h k
  | 0 => by simp [diffs]
  | k + 1 => by
    have ih := diffs_tri f g h k
    simp only [diffs]
    by_cases h1 : f k = g k
    · by_cases h2 : g k = h k
      · rw [if_pos (h1.trans h2)]; omega
      · have : (if f k = h k then 0 else 1) ≤ 1 := by split <;> omega
        rw [if_pos h1, if_neg h2]; omega
    · have : (if f k = h k then 0 else 1) ≤ 1 := by split <;> omega
      rw [if_neg h1]; omega
theorem mend_diffs {n : Nat} : ∀ (rs : Runz) (a : Nat) (b : List Int), b.length = n → okR n a rs = true → diffs (fun i => b.getD i 0) (fun i => (mendR b rs).getD i 0) n ≤ weigh rs
  | [], _, b, _, _ => by
    have : ∀ k, diffs (fun i => b.getD i 0) (fun i => (mendR b []).getD i 0) k = 0 := fun k => by
      induction k with
      | zero => rfl
      | succ k ih => rw [diffs, ih, if_pos (show b.getD k 0 = (mendR b []).getD k 0 from rfl)]
    rw [this]; omega
  | (s, l) :: rs, a, b, hb, h => by
    simp only [okR, Bool.and_eq_true, decide_eq_true_eq] at h
    have ih := mend_diffs rs _ (laid b s l) (by rw [laid_len _ _ _ (by omega), hb]) h.2
    have h1 := diffs_le (f := fun i => b.getD i 0) (g := fun i => (laid b s l).getD i 0) (s := s) (m := l.length) (fun i hi => by
      show b.getD i 0 = (laid b s l).getD i 0
      rw [laid_get _ _ _ (by omega), if_neg hi]) n
    have h2 := diffs_tri (fun i => b.getD i 0) (fun i => (laid b s l).getD i 0) (fun i => (mendR (laid b s l) rs).getD i 0) n
    show diffs (fun i => b.getD i 0) (fun i => (mendR (laid b s l) rs).getD i 0) n ≤ weigh ((s, l) :: rs)
    simp only [weigh, List.map_cons, List.sum_cons] at ih ⊢
    omega

/-- the runs of two lists -/
def runsL (x y : List Int) : Runz := runsD (fun i => x.getD i 0) (fun i => y.getD i 0) x.length
theorem runsL_mend (x y : List Int) (h : x.length = y.length) : mendR x (runsL x y) = y ∧ okR x.length 0 (runsL x y) = true := by
  obtain ⟨h1, h2, _⟩ := runsD_ok x y h x.length (Nat.le_refl _)
  refine ⟨?_, h2⟩
  unfold runsL
  rw [h1, h, List.take_of_length_le (Nat.le_refl _), List.drop_eq_nil_of_le (by omega), List.append_nil]
theorem runsL_least (x : List Int) (rs : Runz) (h : okR x.length 0 rs = true) : weigh (runsL x (mendR x rs)) ≤ weigh rs := by
  have hl := mendR_len rs 0 x rfl h
  obtain ⟨_, _, _, h4⟩ := runsD_ok x (mendR x rs) hl.symm x.length (Nat.le_refl _)
  unfold runsL
  rw [h4]
  exact mend_diffs rs 0 x rfl h
theorem runsL_byt {x y : List Int} : ∀ k, ∀ r ∈ runsD (fun i => x.getD i 0) (fun i => y.getD i 0) k, k ≤ y.length → ∀ b ∈ r.2, b ∈ y
  | 0, r, hr, _, _, _ => by simp [runsD] at hr
  | k + 1, r, hr, hk, b, hb => by
    have ih := runsL_byt (x := x) (y := y) k
    have hy : y.getD k 0 ∈ y := by
      simp only [List.getD, List.getElem?_eq_getElem (show k < y.length by omega), Option.getD_some]
      exact List.getElem_mem _
    rw [runsD] at hr
    split at hr
    · exact ih r hr (by omega) b hb
    · unfold extR at hr
      split at hr
      · rename_i s l hl
        split at hr
        · rcases List.mem_append.1 hr with h1 | h1
          · exact ih r (List.dropLast_subset _ h1) (by omega) b hb
          · rw [List.mem_singleton.1 h1] at hb
            rcases List.mem_append.1 hb with h2 | h2
            · exact ih (s, l) (List.mem_of_getLast? hl) (by omega) b h2
            · rw [List.mem_singleton.1 h2]; exact hy
        · rcases List.mem_append.1 hr with h1 | h1
          · exact ih r h1 (by omega) b hb
          · rw [List.mem_singleton.1 h1] at hb
            rw [List.mem_singleton.1 hb]; exact hy
      · rcases List.mem_append.1 hr with h1 | h1
        · exact ih r h1 (by omega) b hb
        · rw [List.mem_singleton.1 h1] at hb
          rw [List.mem_singleton.1 hb]; exact hy
end Go.Proofs.Ytdhicfolchpmhaa
