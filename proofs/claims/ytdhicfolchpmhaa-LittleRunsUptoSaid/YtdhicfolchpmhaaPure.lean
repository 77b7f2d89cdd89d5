/- The plain mathematics of the sums (no program). No condition. -/
namespace Go.Proofs.Ytdhicfolchpmhaa
set_option linter.unusedVariables false

def sumStep (p : Int × Int) (x : Int) : Int × Int := ((p.1 + x) % 65521, (p.2 + (p.1 + x) % 65521) % 65521)
def sumOf (l : List Int) : Int × Int := l.foldl sumStep (1, 0)
def sumVal (l : List Int) : Int := (sumOf l).2 * 65536 + (sumOf l).1

theorem sumOf_snoc (l : List Int) (x : Int) : sumOf (l ++ [x]) = sumStep (sumOf l) x := by simp [sumOf]
theorem sumOf_bd (l : List Int) : 0 ≤ (sumOf l).1 ∧ (sumOf l).1 < 65521 ∧ 0 ≤ (sumOf l).2 ∧ (sumOf l).2 < 65521 := by
  suffices H : ∀ (l : List Int) (p : Int × Int), (0 ≤ p.1 ∧ p.1 < 65521 ∧ 0 ≤ p.2 ∧ p.2 < 65521) → (let q := l.foldl sumStep p; 0 ≤ q.1 ∧ q.1 < 65521 ∧ 0 ≤ q.2 ∧ q.2 < 65521) from H l (1, 0) (by decide)
  intro l
  induction l with
  | nil => intro p hp; exact hp
  | cons x l ih => intro p hp; exact ih _ (by simp only [sumStep]; omega)
theorem sumVal_bd (l : List Int) : 0 ≤ sumVal l ∧ sumVal l ≤ 4294967295 := by
  have := sumOf_bd l; unfold sumVal; omega

/-- the plain total -/
def tot : List Int → Int
  | [] => 0
  | x :: l => x + tot l
theorem tot_append (a b : List Int) : tot (a ++ b) = tot a + tot b := by
  induction a with
  | nil => simp [tot]
  | cons x a ih => simp only [List.cons_append, tot, ih]; omega

theorem fold_low (l : List Int) : ∀ p : Int × Int, (l.foldl sumStep p).1 % 65521 = (p.1 + tot l) % 65521 := by
  induction l with
  | nil => intro p; simp [tot]
  | cons x l ih => intro p; rw [List.foldl_cons, ih]; simp only [sumStep, tot]; omega
theorem low_of (l : List Int) : (sumOf l).1 = (1 + tot l) % 65521 := by
  have h := fold_low l (1, 0)
  have hb := sumOf_bd l
  unfold sumOf at *
  simp only at h
  omega

/-- total of totals: the sum of (length - index) * x -/
def wtot : List Int → Int
  | [] => 0
  | x :: l => (l.length + 1) * x + wtot l
theorem fold_high (l : List Int) : ∀ p : Int × Int, (l.foldl sumStep p).2 % 65521 = (p.2 + l.length * p.1 + wtot l) % 65521 := by
  induction l with
  | nil => intro p; simp [wtot]
  | cons x l ih =>
    intro p
    rw [List.foldl_cons, ih]
    simp only [sumStep, wtot, List.length_cons]
    generalize hL : (l.length : Int) = L
    generalize wtot l = W
    have e1 : ((p.2 + (p.1 + x) % 65521) % 65521 + L * ((p.1 + x) % 65521) + W) % 65521 = (p.2 + (p.1 + x) + L * (p.1 + x) + W) % 65521 := by
      have h1 : (L * ((p.1 + x) % 65521)) % 65521 = (L * (p.1 + x)) % 65521 := by rw [Int.mul_emod, Int.emod_emod_of_dvd _ (Int.dvd_refl _), ← Int.mul_emod]
      omega
    rw [e1]
    congr 1
    have : ((l.length + 1 : Nat) : Int) = L + 1 := by omega
    rw [this]
    rw [Int.add_mul, Int.add_mul, Int.mul_add]
    omega

theorem wtot_append (a b : List Int) : wtot (a ++ b) = wtot a + b.length * tot a + wtot b := by
  induction a with
  | nil => simp [wtot, tot]
  | cons x a ih =>
    simp only [List.cons_append, wtot, tot, ih, List.length_append]
    have : ((a.length + b.length : Nat) : Int) = (a.length : Int) + b.length := by omega
    rw [this]
    simp only [Int.add_mul, Int.mul_add]
    omega

theorem high_of (l : List Int) : (sumOf l).2 = (l.length + wtot l) % 65521 := by
  have h := fold_high l (1, 0)
  have hb := sumOf_bd l
  unfold sumOf at *
  simp only at h
  omega

/-- Join, as both texts reckon it -/
def joinVal (a b n : Int) : Int :=
  let n := if n < 0 then 0 else n
  ((a / 65536 + b / 65536 + n % 65521 * ((a % 65536 + 65520) % 65521)) % 65521) * 65536 + (a % 65536 + 65520 + b % 65536) % 65521

theorem join_sums (a b : List Int) : joinVal (sumVal a) (sumVal b) b.length = sumVal (a ++ b) := by
  have ha := sumOf_bd a
  have hb := sumOf_bd b
  have a1 : sumVal a / 65536 = (sumOf a).2 := by unfold sumVal; omega
  have a2 : sumVal a % 65536 = (sumOf a).1 := by unfold sumVal; omega
  have b1 : sumVal b / 65536 = (sumOf b).2 := by unfold sumVal; omega
  have b2 : sumVal b % 65536 = (sumOf b).1 := by unfold sumVal; omega
  unfold joinVal
  simp only [show ¬ ((b.length : Int) < 0) by omega, if_false]
  rw [a1, a2, b1, b2]
  have hl : ((sumOf a).1 + 65520 + (sumOf b).1) % 65521 = (sumOf (a ++ b)).1 := by
    rw [low_of, low_of, low_of, tot_append]; omega
  have hh : ((sumOf a).2 + (sumOf b).2 + (b.length : Int) % 65521 * (((sumOf a).1 + 65520) % 65521)) % 65521 = (sumOf (a ++ b)).2 := by
    rw [high_of (a ++ b), high_of a, high_of b, low_of a, wtot_append, List.length_append]
    have h2 : ((a.length + b.length : Nat) : Int) = a.length + b.length := by omega
    rw [h2]
    clear h2
    generalize (b.length : Int) = L
    generalize wtot a = A
    generalize wtot b = B
    generalize tot a = T
    have e : ((1 + T) % 65521 + 65520) % 65521 = T % 65521 := by omega
    rw [e]
    have h1 : (L % 65521 * (T % 65521)) % 65521 = (L * T) % 65521 := by rw [← Int.mul_emod]
    generalize L % 65521 * (T % 65521) = M at *
    generalize L * T = M' at *
    omega
  rw [hl, hh]
  rfl

theorem tot_set (l : List Int) : ∀ (k : Nat) (y : Int), k < l.length → tot (l.set k y) = tot l - l.getD k 0 + y := by
  induction l with
  | nil => intro k y h; simp at h
  | cons x l ih =>
    intro k y h
    cases k with
    | zero => simp [tot]; omega
    | succ k =>
      have := ih k y (by simpa using h)
      simp only [List.set_cons_succ, tot, this, List.getD_cons_succ]
      omega

/-- two lists that differ in one byte have different sums -/
theorem sum_turned (l : List Int) (k : Nat) (y : Int) (hk : k < l.length) (hx : 0 ≤ l.getD k 0 ∧ l.getD k 0 ≤ 255) (hy : 0 ≤ y ∧ y ≤ 255) (hne : y ≠ l.getD k 0) : sumVal l ≠ sumVal (l.set k y) := by
  have ha := sumOf_bd l
  have hb := sumOf_bd (l.set k y)
  have la := low_of l
  have lb := low_of (l.set k y)
  rw [tot_set l k y hk] at lb
  unfold sumVal
  omega
end Go.Proofs.Ytdhicfolchpmhaa
