/- The plain mathematics of numbers as little-endian bytes (no program). No condition. -/
namespace Go.Proofs.Ytdhicfolchpmhaa
set_option linter.unusedVariables false

def le : Nat → Int → List Int
  | 0, _ => []
  | w + 1, x => x % 256 :: le w (x / 256)
def num : List Int → Int
  | [] => 0
  | b :: r => b + 256 * num r
def Byt (l : List Int) : Prop := ∀ b ∈ l, 0 ≤ b ∧ b ≤ 255

theorem le_len (w : Nat) : ∀ x, (le w x).length = w := by
  induction w with
  | zero => intro x; rfl
  | succ w ih => intro x; simp [le, ih]
theorem le_byt (w : Nat) : ∀ x, Byt (le w x) := by
  induction w with
  | zero => intro x b hb; simp [le] at hb
  | succ w ih =>
    intro x b hb
    simp only [le, List.mem_cons] at hb
    rcases hb with rfl | hb
    · omega
    · exact ih _ b hb
theorem num_bd : ∀ l : List Int, Byt l → 0 ≤ num l ∧ num l < 256 ^ l.length
  | [], _ => by simp [num]
  | b :: r, h => by
    have h1 := h b (by simp)
    have h2 := num_bd r (fun c hc => h c (List.mem_cons_of_mem _ hc))
    simp only [num, List.length_cons, Int.pow_succ]
    generalize num r = n at *
    generalize (256 : Int) ^ r.length = p at *
    omega
theorem num_le (w : Nat) : ∀ x : Int, 0 ≤ x → x < 256 ^ w → num (le w x) = x := by
  induction w with
  | zero => intro x h0 h1; simp at h1; simp [le, num]; omega
  | succ w ih =>
    intro x h0 h1
    rw [Int.pow_succ] at h1
    have := ih (x / 256) (by omega) (by generalize (256 : Int) ^ w = p at *; omega)
    simp only [le, num, this]
    omega
theorem le_num : ∀ l : List Int, Byt l → le l.length (num l) = l
  | [], _ => rfl
  | b :: r, h => by
    have h1 := h b (by simp)
    have h2 := le_num r (fun c hc => h c (List.mem_cons_of_mem _ hc))
    simp only [List.length_cons, le, num]
    have e1 : (b + 256 * num r) % 256 = b := by omega
    have e2 : (b + 256 * num r) / 256 = num r := by omega
    rw [e1, e2, h2]

theorem le_take_succ (w : Nat) : ∀ (x : Int) (k : Nat), k < w → (le w x).take (k + 1) = (le w x).take k ++ [(x / 256 ^ k) % 256] := by
  induction w with
  | zero => intro x k h; omega
  | succ w ih =>
    intro x k h
    cases k with
    | zero => simp [le]
    | succ k =>
      have := ih (x / 256) k (by omega)
      simp only [le, List.take_succ_cons, this, List.cons_append]
      rw [Int.pow_succ', Int.ediv_ediv_of_nonneg (by decide)]
theorem div_pow_succ (x : Int) (k : Nat) : x / 256 ^ (k + 1) = x / 256 ^ k / 256 := by
  rw [Int.pow_succ, Int.ediv_ediv_of_nonneg (Int.pow_nonneg (by decide))]

/-- from the front: the number of a drop -/
theorem num_cons (l : List Int) (k : Nat) (h : k < l.length) : num (l.drop k) = l.getD k 0 + 256 * num (l.drop (k + 1)) := by
  rw [List.drop_eq_getElem_cons h]
  simp [num, List.getD, h]

/-- what Put, All, At, With are -/
def putL (w : Nat) (xs : List Int) : List Int := xs.flatMap (le w)
def chunk (w : Nat) (l : List Int) (i : Nat) : List Int := (l.drop (i * w)).take w
def allL (w : Nat) (l : List Int) : List Int := (List.range (l.length / w)).map fun i => num (chunk w l i)
def withL (w : Nat) (l : List Int) (at_ : Nat) (x : Int) : List Int := l.take at_ ++ le w x ++ l.drop (at_ + w)

/-- All with its fault -/
def allR (w : Nat) (l : List Int) : List Int × Int := if l.length % w = 0 then (allL w l, 0) else ([], 21)
theorem putL_len (w : Nat) (xs : List Int) : (putL w xs).length = w * xs.length := by
  induction xs with
  | nil => simp [putL]
  | cons x xs ih =>
    have : putL w (x :: xs) = le w x ++ putL w xs := rfl
    rw [this, List.length_append, le_len, ih, List.length_cons, Nat.mul_succ]; omega
theorem putL_byt (w : Nat) (xs : List Int) : Byt (putL w xs) := by
  intro b hb
  obtain ⟨x, _, hx⟩ := List.mem_flatMap.1 hb
  exact le_byt w x b hx
theorem putL_snoc (w : Nat) (xs : List Int) (x : Int) : putL w (xs ++ [x]) = putL w xs ++ le w x := by simp [putL]
theorem putL_take_succ (w : Nat) (xs : List Int) (k : Nat) (h : k < xs.length) : putL w (xs.take (k + 1)) = putL w (xs.take k) ++ le w (xs.getD k 0) := by
  rw [List.take_succ_eq_append_getElem h, putL_snoc]
  simp [List.getD, h]
theorem chunk_byt {w : Nat} {l : List Int} (h : Byt l) (i : Nat) : Byt (chunk w l i) := fun b hb => h b (List.mem_of_mem_drop (List.mem_of_mem_take hb))
theorem chunk_len {w : Nat} {l : List Int} {i : Nat} (h : (i + 1) * w ≤ l.length) : (chunk w l i).length = w := by
  unfold chunk
  rw [List.length_take, List.length_drop]
  rw [Nat.succ_mul] at h
  omega
theorem allL_len (w : Nat) (l : List Int) : (allL w l).length = l.length / w := by simp [allL]

/-- All of Put -/
theorem all_put (w : Nat) (hw : 0 < w) (xs : List Int) (h : ∀ x ∈ xs, 0 ≤ x ∧ x < 256 ^ w) : allL w (putL w xs) = xs := by
  have hlen : (putL w xs).length / w = xs.length := by rw [putL_len, Nat.mul_div_cancel_left _ hw]
  refine List.ext_getElem (by rw [allL_len, hlen]) fun i h1 h2 => ?_
  simp only [allL, List.getElem_map, List.getElem_range]
  have hch : ∀ (xs : List Int) (i : Nat) (hi : i < xs.length), chunk w (putL w xs) i = le w xs[i] := by
    intro xs
    induction xs with
    | nil => intro i hi; simp at hi
    | cons x xs ih =>
      intro i hi
      have e : putL w (x :: xs) = le w x ++ putL w xs := rfl
      cases i with
      | zero =>
        simp only [chunk, Nat.zero_mul, List.drop_zero, e, List.getElem_cons_zero]
        rw [List.take_append_of_le_length (by rw [le_len]; omega), List.take_of_length_le (by rw [le_len]; omega)]
      | succ i =>
        have := ih i (by simpa using hi)
        simp only [chunk, e, List.getElem_cons_succ] at this ⊢
        rw [← this, Nat.succ_mul, Nat.add_comm (i * w) w, ← List.drop_drop, List.drop_left' (by rw [le_len])]
  rw [hch xs i h2]
  have := h xs[i] (List.getElem_mem h2)
  exact num_le w _ this.1 this.2

/-- Put of All -/
theorem put_all (w : Nat) (hw : 0 < w) (l : List Int) (hl : Byt l) (hd : l.length % w = 0) : putL w (allL w l) = l := by
  have key : ∀ (n : Nat) (l : List Int), Byt l → l.length = n * w → ((List.range n).map fun i => num (chunk w l i)).flatMap (le w) = l := by
    intro n
    induction n with
    | zero => intro l _ h; simp at h; simp [h]
    | succ n ih =>
      intro l hb h
      rw [Nat.succ_mul] at h
      have h1 : (l.take w).length = w := by rw [List.length_take]; omega
      have h2 := ih (l.drop w) (fun b hb' => hb b (List.mem_of_mem_drop hb')) (by rw [List.length_drop]; omega)
      rw [List.range_succ_eq_map, List.map_cons, List.map_map, List.flatMap_cons]
      have e1 : le w (num (chunk w l 0)) = l.take w := by
        have hb1 : Byt (l.take w) := fun b hb' => hb b (List.mem_of_mem_take hb')
        have := le_num (l.take w) hb1
        rw [h1] at this
        simpa [chunk] using this
      have e2 : (List.range n).map ((fun i => num (chunk w l i)) ∘ Nat.succ) = (List.range n).map fun i => num (chunk w (l.drop w) i) := by
        refine List.map_congr_left fun i _ => ?_
        simp only [Function.comp, chunk, List.drop_drop]
        rw [Nat.succ_mul, Nat.add_comm]
      rw [e1, e2, h2]
      exact List.take_append_drop w l
  have := key (l.length / w) l hl (by have := Nat.div_add_mod l.length w; rw [hd, Nat.mul_comm] at this; omega)
  exact this

theorem withL_len (w : Nat) (l : List Int) (k : Nat) (x : Int) (h : k + w ≤ l.length) : (withL w l k x).length = l.length := by
  unfold withL
  simp only [List.length_append, List.length_take, List.length_drop, le_len]
  omega
theorem withL_byt (w : Nat) (l : List Int) (k : Nat) (x : Int) (hl : Byt l) : Byt (withL w l k x) := by
  intro b hb
  unfold withL at hb
  simp only [List.mem_append] at hb
  rcases hb with (hb | hb) | hb
  · exact hl b (List.mem_of_mem_take hb)
  · exact le_byt w x b hb
  · exact hl b (List.mem_of_mem_drop hb)
/-- what is laid over is read there -/
theorem with_at (w : Nat) (l : List Int) (k : Nat) (x : Int) (h : k + w ≤ l.length) (hx : 0 ≤ x ∧ x < 256 ^ w) : num (((withL w l k x).drop k).take w) = x := by
  unfold withL
  rw [List.append_assoc, List.drop_left' (by rw [List.length_take]; omega), List.take_left' (by rw [le_len])]
  exact num_le w x hx.1 hx.2
/-- laid back -/
theorem with_back (w : Nat) (l : List Int) (k : Nat) (x : Int) (h : k + w ≤ l.length) (hl : Byt l) : withL w (withL w l k x) k (num ((l.drop k).take w)) = l := by
  have e1 : (withL w l k x).take k = l.take k := by
    unfold withL
    rw [List.append_assoc, List.take_left' (by rw [List.length_take]; omega)]
  have e2 : (withL w l k x).drop (k + w) = l.drop (k + w) := by
    unfold withL
    exact List.drop_left' (by rw [List.length_append, List.length_take, le_len]; omega)
  have e3 : le w (num ((l.drop k).take w)) = (l.drop k).take w := by
    have hb1 : Byt ((l.drop k).take w) := fun b hb' => hl b (List.mem_of_mem_drop (List.mem_of_mem_take hb'))
    have h1 : ((l.drop k).take w).length = w := by rw [List.length_take, List.length_drop]; omega
    have := le_num _ hb1
    rwa [h1] at this
  show (withL w l k x).take k ++ le w (num ((l.drop k).take w)) ++ (withL w l k x).drop (k + w) = l
  rw [e1, e2, e3, List.append_assoc, ← List.drop_drop, List.take_append_drop, List.take_append_drop]
end Go.Proofs.Ytdhicfolchpmhaa
