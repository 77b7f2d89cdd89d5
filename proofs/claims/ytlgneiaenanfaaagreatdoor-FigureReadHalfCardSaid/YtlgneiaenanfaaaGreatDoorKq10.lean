/- Walks and plain laws, merged: FqE FgM. No condition. -/
import Derived.Test.YtlgneiaenanfaaaGreatDoorKq09
import Derived.Test.YtlgneiaenanfaaaGreatDoorKq08
namespace Go.Proofs.YtlgneiaenanfaaaGreatDoor
open Go.RowKit
set_option linter.unusedVariables false
set_option linter.unusedSimpArgs false
set_option maxRecDepth 100000
set_option maxHeartbeats 64000000
section
set_option maxRecDepth 100000
open Go
def DG (l : List Nat) : Prop := ∀ d ∈ l, d ≤ 9
def lexLt : List Nat → List Nat → Bool
 | _, [] => false
 | [], _ :: _ => true
 | x :: b, y :: s => if x = y then lexLt b s else decide (x < y)
theorem DG.tail {x : Nat} {l : List Nat} (h : DG (x :: l)) : x ≤ 9 ∧ DG l := ⟨h x List.mem_cons_self, fun d hd => h d (List.mem_cons_of_mem _ hd)⟩
theorem dnum_pos : ∀ {l : List Nat} {d : Nat}, l.getLast? = some d → d ≠ 0 → 0 < dnum l
 | [], _, h, _ => by simp at h
 | [x], d, h, hd => by
  simp at h
  subst h
  rw [dnum_cons]
  simp
  have := dnum_nil
  omega
 | x :: y :: r, d, h, hd => by
  rw [List.getLast?_cons_cons] at h
  have := dnum_pos h hd
  rw [dnum_cons]
  omega
theorem lex_law : ∀ (b s : List Nat), DG b → DG s → (∀ d, s.getLast? = some d → d ≠ 0) → (lexLt b s = true ↔ dnum b * 10 ^ s.length < dnum s * 10 ^ b.length)
 | b, [], _, _, _ => by
  cases b <;> simp [lexLt, dnum_nil]
 | [], y :: s, _, _, hl => by
  have : 0 < dnum (y :: s) := by
   have hne : (y :: s).getLast? = some ((y :: s).getLast (by simp)) := List.getLast?_eq_some_getLast (by simp)
   exact dnum_pos hne (hl _ hne)
  simp [lexLt, dnum_nil, this]
 | x :: b, y :: s, hb, hs, hl => by
  have h1 := dnum_lt hb.tail.2
  have h2 := dnum_lt hs.tail.2
  rw [dnum_cons, dnum_cons, List.length_cons, List.length_cons, Nat.pow_succ, Nat.pow_succ]
  generalize hP : 10 ^ b.length = P at *
  generalize hQ : 10 ^ s.length = Q at *
  have hP0 : 0 < P := by rw [← hP]; exact Nat.pow_pos (by decide)
  have hQ0 : 0 < Q := by rw [← hQ]; exact Nat.pow_pos (by decide)
  have e1 : (x * P + dnum b) * (Q * 10) = 10 * (x * (P * Q) + dnum b * Q) := by
   rw [Nat.add_mul, Nat.mul_add]
   simp only [Nat.mul_assoc, Nat.mul_left_comm, Nat.mul_comm]
  have e2 : (y * Q + dnum s) * (P * 10) = 10 * (y * (P * Q) + dnum s * P) := by
   rw [Nat.add_mul, Nat.mul_add]
   simp only [Nat.mul_assoc, Nat.mul_left_comm, Nat.mul_comm]
  have b1 : dnum b * Q < P * Q := Nat.mul_lt_mul_of_pos_right h1 hQ0
  have b2 : dnum s * P < P * Q := by rw [Nat.mul_comm P Q]; exact Nat.mul_lt_mul_of_pos_right h2 hP0
  rw [e1, e2]
  simp only [lexLt]
  by_cases hxy : x = y
  ·subst hxy
   rw [if_pos rfl]
   have ih := lex_law b s hb.tail.2 hs.tail.2 (fun d hd => by
    cases s with
    | nil => simp at hd
    | cons z r => exact hl d (by rw [List.getLast?_cons_cons]; exact hd))
   rw [ih, hP, hQ]
   omega
  ·rw [if_neg hxy, decide_eq_true_eq]
   constructor
   ·intro h
    have : (x + 1) * (P * Q) ≤ y * (P * Q) := Nat.mul_le_mul_right _ h
    rw [Nat.add_mul, Nat.one_mul] at this
    omega
   ·intro h
    apply Classical.byContradiction
    intro hc
    have : (y + 1) * (P * Q) ≤ x * (P * Q) := Nat.mul_le_mul_right _ (by omega)
    rw [Nat.add_mul, Nat.one_mul] at this
    omega
structure Cheat (k D : Nat) (c : List Nat) : Prop where
 D1 : 1 ≤ D
 lo : 10 ^ (D - 1) ≤ 2 ^ k
 hi : 2 ^ k < 10 ^ D
 len : D + c.length = k + 1
 num : dnum c = 5 ^ k
 dg : DG c
 last : ∀ d, c.getLast? = some d → d ≠ 0
theorem head_lo {l : List Nat} (h0 : ∃ d r, l = d :: r ∧ d ≠ 0) : 1 ≤ l.length ∧ 10 ^ (l.length - 1) ≤ dnum l := by
 obtain ⟨d, r, rfl, hd⟩ := h0
 exact ⟨by simp, by simpa using dnum_ge (d := d) (r := r) hd⟩
theorem ls_count {k D : Nat} {c l : List Nat} (hc : Cheat k D c) (hl : DG l) (h0 : ∃ d r, l = d :: r ∧ d ≠ 0) (δ : Nat) (hδ : δ = D - (if lexLt l c then 1 else 0)) :
  10 ^ (l.length + δ - 1) ≤ dnum l * 2 ^ k ∧ dnum l * 2 ^ k < 10 ^ (l.length + δ) := by
 have hx := dnum_lt hl
 obtain ⟨hn, hy⟩ := head_lo h0
 have hD := hc.D1
 have hlx := lex_law l c hl hc.dg hc.last
 rw [hc.num] at hlx
 have hL : 0 < 10 ^ c.length := Nat.pow_pos (by decide)
 have h2 : 0 < 2 ^ k := Nat.pow_pos (by decide)
 have key : lexLt l c = true ↔ dnum l * 2 ^ k < 10 ^ (l.length + D - 1) := by
  rw [hlx]
  have e1 : dnum l * 10 ^ c.length * 2 ^ k = dnum l * 2 ^ k * 10 ^ c.length := by simp only [Nat.mul_assoc, Nat.mul_left_comm, Nat.mul_comm]
  have e2 : 5 ^ k * 10 ^ l.length * 2 ^ k = 10 ^ (l.length + D - 1) * 10 ^ c.length := by
   rw [← Nat.pow_add, show l.length + D - 1 + c.length = l.length + k by have := hc.len; omega, Nat.pow_add, Nat.mul_comm (5 ^ k), Nat.mul_assoc, ← Nat.mul_pow]
  constructor
  ·intro h
   have := Nat.mul_lt_mul_of_pos_right h h2
   rw [e1, e2] at this
   exact Nat.lt_of_mul_lt_mul_right this
  ·intro h
   have := Nat.mul_lt_mul_of_pos_right h hL
   rw [← e1, ← e2] at this
   exact Nat.lt_of_mul_lt_mul_right this
 by_cases h : lexLt l c = true
 ·rw [if_pos h] at hδ
  have h3 := key.1 h
  refine ⟨?_, by rw [show l.length + δ = l.length + D - 1 by omega]; exact h3⟩
  calc 10 ^ (l.length + δ - 1) = 10 ^ (l.length - 1) * 10 ^ (D - 1) := by rw [← Nat.pow_add]; congr 1; omega
   _ ≤ dnum l * 2 ^ k := Nat.mul_le_mul hy hc.lo
 ·rw [if_neg h] at hδ
  have h3 : ¬ dnum l * 2 ^ k < 10 ^ (l.length + D - 1) := fun e => h (key.2 e)
  refine ⟨by rw [show l.length + δ = l.length + D by omega]; omega, ?_⟩
  calc dnum l * 2 ^ k < 10 ^ l.length * 2 ^ k := Nat.mul_lt_mul_of_pos_right hx h2
   _ ≤ 10 ^ l.length * 10 ^ D := Nat.mul_le_mul_left _ (Nat.le_of_lt hc.hi)
   _ = 10 ^ (l.length + δ) := by rw [← Nat.pow_add]; congr 1; omega
theorem head_ne {l : List Nat} (h1 : 1 ≤ l.length) (hd : DG l) (h : 10 ^ (l.length - 1) ≤ dnum l) : ∃ d r, l = d :: r ∧ d ≠ 0 := by
 cases l with
 | nil => simp at h1
 | cons d r =>
  refine ⟨d, r, rfl, ?_⟩
  rintro rfl
  have := dnum_lt hd.tail.2
  rw [dnum_cons] at h
  simp at h
  omega
theorem getD_at (l : List Nat) (k : Nat) (h : k < l.length) : l.getD k 0 = l[k] := by simp [List.getD, h]
/-! ### what is read back as a whole number -/
def rUp (l : List Nat) (dp : Int) : Bool :=
 if dp < 0 ∨ (l.length : Int) ≤ dp then false
 else if l.getD dp.toNat 0 = 5 ∧ dp.toNat + 1 = l.length then decide (0 < dp) && decide (l.getD (dp.toNat - 1) 0 % 2 = 1)
 else decide (5 ≤ l.getD dp.toNat 0)
def rInt (l : List Nat) (dp : Int) : Nat := dnum (l.take dp.toNat) * 10 ^ (dp.toNat - l.length) + (if rUp l dp then 1 else 0)
theorem dnum_even (l : List Nat) (d : Nat) (h : l.getLast? = some d) : dnum l % 2 = d % 2 := by
 obtain ⟨r, e⟩ := List.getLast?_eq_some_iff.1 h
 rw [e, dnum_snoc]
 omega
theorem rd_ne {n d m : Nat} (h1 : 4 * (m * d) < n + 2 * d) (h2 : n < 4 * (m * d) + 2 * d) : Rd n d m := ⟨Nat.le_of_lt h1, Nat.le_of_lt h2, fun e => by omega, fun e => by omega⟩
theorem DV.hi {l : List Nat} {dp : Int} {n d : Nat} (h : DV l dp n d) (hl : DG l) (hd : 0 < d) : n * 10 ^ (-dp).toNat < d * 10 ^ dp.toNat := by
 have hx := dnum_lt hl
 unfold DV at h
 have hp : 0 < 10 ^ ((l.length : Int) - dp).toNat := Nat.pow_pos (by decide)
 have e : (dp - (l.length : Int)).toNat + l.length + (-dp).toNat = dp.toNat + ((l.length : Int) - dp).toNat := by omega
 refine Nat.lt_of_mul_lt_mul_right (a := 10 ^ ((l.length : Int) - dp).toNat) ?_
 calc n * 10 ^ (-dp).toNat * 10 ^ ((l.length : Int) - dp).toNat = n * 10 ^ ((l.length : Int) - dp).toNat * 10 ^ (-dp).toNat := by simp only [Nat.mul_assoc, Nat.mul_left_comm, Nat.mul_comm]
  _ = dnum l * (10 ^ (dp - (l.length : Int)).toNat * d * 10 ^ (-dp).toNat) := by rw [← h]; simp only [Nat.mul_assoc]
  _ < 10 ^ l.length * (10 ^ (dp - (l.length : Int)).toNat * d * 10 ^ (-dp).toNat) := Nat.mul_lt_mul_of_pos_right hx (Nat.mul_pos (Nat.mul_pos (Nat.pow_pos (by decide)) hd) (Nat.pow_pos (by decide)))
  _ = d * 10 ^ ((dp - (l.length : Int)).toNat + l.length + (-dp).toNat) := by rw [Nat.pow_add, Nat.pow_add]; simp only [Nat.mul_assoc, Nat.mul_left_comm, Nat.mul_comm]
  _ = d * 10 ^ dp.toNat * 10 ^ ((l.length : Int) - dp).toNat := by rw [e, Nat.pow_add]; simp only [Nat.mul_assoc]
theorem DV.lo {l : List Nat} {dp : Int} {n d : Nat} (h : DV l dp n d) (h0 : ∃ x r, l = x :: r ∧ x ≠ 0) : d * 10 ^ (dp - 1).toNat ≤ n * 10 ^ (1 - dp).toNat := by
 obtain ⟨hn, hx⟩ := head_lo h0
 unfold DV at h
 have hp : 0 < 10 ^ ((l.length : Int) - dp).toNat := Nat.pow_pos (by decide)
 have e : (dp - (l.length : Int)).toNat + (l.length - 1) + (1 - dp).toNat = (dp - 1).toNat + ((l.length : Int) - dp).toNat := by omega
 refine Nat.le_of_mul_le_mul_right (c := 10 ^ ((l.length : Int) - dp).toNat) ?_ hp
 calc d * 10 ^ (dp - 1).toNat * 10 ^ ((l.length : Int) - dp).toNat = 10 ^ (l.length - 1) * (10 ^ (dp - (l.length : Int)).toNat * d * 10 ^ (1 - dp).toNat) := by rw [Nat.mul_assoc, ← Nat.pow_add, ← e, Nat.pow_add, Nat.pow_add]; simp only [Nat.mul_assoc, Nat.mul_left_comm, Nat.mul_comm]
  _ ≤ dnum l * (10 ^ (dp - (l.length : Int)).toNat * d * 10 ^ (1 - dp).toNat) := Nat.mul_le_mul_right _ hx
  _ = n * 10 ^ ((l.length : Int) - dp).toNat * 10 ^ (1 - dp).toNat := by rw [← h]; simp only [Nat.mul_assoc]
  _ = n * 10 ^ (1 - dp).toNat * 10 ^ ((l.length : Int) - dp).toNat := by simp only [Nat.mul_assoc, Nat.mul_left_comm, Nat.mul_comm]
theorem rInt_rd {l : List Nat} {dp : Int} {n d : Nat} (h : DV l dp n d) (hl : DG l) (hd : 0 < d) (hlast : ∀ x, l.getLast? = some x → x ≠ 0) : Rd (4 * n) d (rInt l dp) := by
 by_cases hneg : dp < 0
 ·have e0 : rInt l dp = 0 := by
   unfold rInt rUp
   rw [if_pos (Or.inl hneg), show dp.toNat = 0 by omega]
   simp [dnum_nil]
  have hh := DV.hi h hl hd
  rw [show dp.toNat = 0 by omega, Nat.pow_zero, Nat.mul_one] at hh
  have h10 : 10 ≤ 10 ^ (-dp).toNat := by
   calc 10 = 10 ^ 1 := rfl
    _ ≤ 10 ^ (-dp).toNat := Nat.pow_le_pow_right (by decide) (by omega)
  have : n * 10 ≤ n * 10 ^ (-dp).toNat := Nat.mul_le_mul_left _ h10
  rw [e0]
  exact rd_ne (by omega) (by omega)
 by_cases hbig : (l.length : Int) ≤ dp
 ·have hup : rUp l dp = false := by unfold rUp; rw [if_pos (Or.inr hbig)]
  have e0 : rInt l dp = dnum l * 10 ^ (dp.toNat - l.length) := by
   unfold rInt
   rw [hup, List.take_of_length_le (by omega)]
   simp
  unfold DV at h
  rw [show ((l.length : Int) - dp).toNat = 0 by omega, Nat.pow_zero, Nat.mul_one, show (dp - (l.length : Int)).toNat = dp.toNat - l.length by omega] at h
  rw [e0, ← h]
  exact rd_ne (by omega) (by omega)
 obtain ⟨k, rfl⟩ : ∃ k : Nat, dp = (k : Int) := ⟨dp.toNat, by omega⟩
 have hk : k < l.length := by omega
 obtain ⟨T, hT⟩ : ∃ T, T = dnum (l.take k) := ⟨_, rfl⟩
 have hdr := List.drop_eq_getElem_cons hk
 obtain ⟨f, hf⟩ : ∃ f, f = l[k] := ⟨_, rfl⟩
 obtain ⟨R, hR⟩ : ∃ R, R = dnum (l.drop (k + 1)) := ⟨_, rfl⟩
 obtain ⟨j, hj⟩ : ∃ j, j = l.length - (k + 1) := ⟨_, rfl⟩
 obtain ⟨J, hJ⟩ : ∃ J, J = 10 ^ j := ⟨_, rfl⟩
 have hRJ : R < J := by
  have := dnum_lt (l := l.drop (k + 1)) (fun d hd => hl d (List.mem_of_mem_drop hd))
  rw [List.length_drop, ← hj, ← hJ, ← hR] at this
  exact this
 have hnum : dnum l = T * (10 * J) + (f * J + R) := by
  have := dnum_app (l.take k) (l.drop k)
  rw [List.take_append_drop, hdr, dnum_cons, List.length_cons, List.length_drop, ← hj, Nat.pow_succ, ← hJ, ← hT, ← hf, ← hR, Nat.mul_comm J 10] at this
  exact this
 have hJ0 : 0 < J := by rw [hJ]; exact Nat.pow_pos (by decide)
 have hDV : (T * (10 * J) + (f * J + R)) * d = n * (10 * J) := by
  unfold DV at h
  rw [show ((k : Int) - (l.length : Int)).toNat = 0 by omega, Nat.pow_zero, Nat.mul_one, show ((l.length : Int) - (k : Int)).toNat = j + 1 by omega, Nat.pow_succ, ← hJ, hnum, Nat.mul_comm J 10] at h
  exact h
 have hD2 : n * (10 * J) = T * d * (10 * J) + (f * J + R) * d := by
  rw [← hDV, Nat.add_mul]
  simp only [Nat.mul_assoc, Nat.mul_left_comm, Nat.mul_comm]
 have hgd : l.getD k 0 = f := by rw [getD_at _ _ hk, hf]
 have hf9 : f ≤ 9 := by rw [hf]; exact hl _ (List.getElem_mem hk)
 have hri : rInt l (k : Int) = T + (if rUp l (k : Int) then 1 else 0) := by
  unfold rInt
  rw [show ((k : Int)).toNat = k by omega, show k - l.length = 0 by omega, Nat.pow_zero, Nat.mul_one, hT]
 have hR0 : R = 0 → j = 0 := by
  intro e
  apply Classical.byContradiction
  intro hj0
  have hne : l.drop (k + 1) ≠ [] := by
   intro e2
   have := congrArg List.length e2
   rw [List.length_drop] at this
   simp at this
   omega
  have hg : (l.drop (k + 1)).getLast? = l.getLast? := by
   rw [List.getLast?_drop, if_neg (by omega)]
  obtain ⟨x, hx⟩ : ∃ x, l.getLast? = some x := ⟨_, List.getLast?_eq_some_getLast (by intro e3; rw [e3] at hk; simp at hk)⟩
  have := dnum_pos (l := l.drop (k + 1)) (hg.trans hx) (hlast x hx)
  omega
 -- the product with d, in one letter
 obtain ⟨X, hX⟩ : ∃ X, X = (f * J + R) * d := ⟨_, rfl⟩
 rw [← hX] at hD2
 obtain ⟨Z, hZ⟩ : ∃ Z, Z = J * d := ⟨_, rfl⟩
 have hZ0 : 0 < Z := by rw [hZ]; exact Nat.mul_pos hJ0 hd
 have cl : ∀ a b : Nat, a * (10 * J) < b * (10 * J) → a < b := fun a b h => Nat.lt_of_mul_lt_mul_right h
 have ec : ∀ a b : Nat, a * (10 * J) = b * (10 * J) → a = b := fun a b h => Nat.eq_of_mul_eq_mul_right (by omega) h
 have eZ : d * (10 * J) = 10 * Z := by rw [hZ]; simp only [Nat.mul_assoc, Nat.mul_left_comm, Nat.mul_comm]
 have m4 : (4 * (T * d)) * (10 * J) = 4 * (T * d * (10 * J)) := by simp only [Nat.mul_assoc]
 have m5 : (4 * n) * (10 * J) = 4 * (n * (10 * J)) := by simp only [Nat.mul_assoc]
 have m6 : (2 * d) * (10 * J) = 20 * Z := by rw [Nat.mul_assoc, eZ]; omega
 have m7 : ((T + 1) * d) = T * d + d := by rw [Nat.add_mul, Nat.one_mul]
 by_cases hlow : f < 5
 ·have hup : rUp l (k : Int) = false := by
   unfold rUp
   rw [if_neg (by omega), show ((k : Int)).toNat = k by omega, hgd, if_neg (by omega)]
   simp; omega
  rw [hri, hup]
  have hX2 : X < 5 * Z := by
   rw [hX, hZ, ← Nat.mul_assoc]
   refine Nat.mul_lt_mul_of_pos_right ?_ hd
   have : f * J ≤ 4 * J := Nat.mul_le_mul_right _ (by omega)
   omega
  refine rd_ne ?_ ?_
  ·simp only [Bool.false_eq_true, if_false, Nat.add_zero]
   refine cl _ _ ?_
   rw [Nat.add_mul, m4, m5, m6, hD2]
   omega
  ·simp only [Bool.false_eq_true, if_false, Nat.add_zero]
   refine cl _ _ ?_
   rw [Nat.add_mul, m4, m5, m6, hD2]
   omega
 ·have hX2 : X < 10 * Z := by
   rw [hX, hZ, ← Nat.mul_assoc]
   refine Nat.mul_lt_mul_of_pos_right ?_ hd
   have : f * J ≤ 9 * J := Nat.mul_le_mul_right _ (by omega)
   omega
  by_cases htie : f = 5 ∧ k + 1 = l.length
  ·-- just between two
   have hj0 : j = 0 := by omega
   have hJ1 : J = 1 := by rw [hJ, hj0, Nat.pow_zero]
   have hR1 : R = 0 := by omega
   have hX3 : X = 5 * Z := by rw [hX, hZ, hR1, htie.1, hJ1]; omega
   have hup : rUp l (k : Int) = decide (T % 2 = 1) := by
    unfold rUp
    rw [if_neg (by omega), show ((k : Int)).toNat = k by omega, hgd, if_pos htie]
    by_cases hk0 : k = 0
    ·subst hk0
     simp [hT, dnum_nil]
    ·have hg : (l.take k).getLast? = some (l.getD (k - 1) 0) := by
      rw [List.getLast?_eq_getElem?, List.length_take, Nat.min_eq_left (by omega), List.getElem?_take, if_pos (by omega), List.getElem?_eq_getElem (by omega), getD_at _ _ (by omega)]
     have := dnum_even _ _ hg
     rw [← hT] at this
     rw [this]
     simp
     omega
   rw [hri, hup]
   have n2 : 2 * n = 2 * (T * d) + d := by
    refine ec _ _ ?_
    rw [Nat.add_mul, eZ, Nat.mul_assoc 2 n, Nat.mul_assoc 2 (T * d), hD2, hX3]
    omega
   by_cases hodd : T % 2 = 1
   ·rw [decide_eq_true hodd, if_pos rfl]
    exact ⟨by rw [m7]; omega, by rw [m7]; omega, fun _ => by omega, fun _ => by omega⟩
   ·rw [decide_eq_false hodd, if_neg (by decide), Nat.add_zero]
    exact ⟨by omega, by omega, fun _ => by omega, fun _ => by omega⟩
  ·have hup : rUp l (k : Int) = true := by
    unfold rUp
    rw [if_neg (by omega), show ((k : Int)).toNat = k by omega, hgd, if_neg htie]
    simp; omega
   rw [hri, hup]
   have hX3 : 5 * Z < X := by
    rw [hX, hZ, ← Nat.mul_assoc]
    refine Nat.mul_lt_mul_of_pos_right ?_ hd
    by_cases h5 : f = 5
    ·have : R ≠ 0 := fun e => by have := hR0 e; omega
     rw [h5]; omega
    ·have : 6 * J ≤ f * J := Nat.mul_le_mul_right _ (by omega)
     omega
   simp only [if_true]
   refine rd_ne ?_ ?_
   ·rw [m7]
    refine cl _ _ ?_
    rw [Nat.mul_add, Nat.add_mul, Nat.add_mul, m4, m5, m6, hD2, Nat.mul_assoc 4 d, eZ]
    omega
   ·rw [m7]
    refine cl _ _ ?_
    rw [Nat.mul_add, Nat.add_mul, Nat.add_mul, m4, m5, m6, hD2, Nat.mul_assoc 4 d, eZ]
    omega
end
section
set_option maxRecDepth 100000
def Fn (w : World) (B : Nat) (c : Nat → Value) : Prop := ∃ cs : Array Value, Bx w B cs 177 ∧ cs.size = 804 ∧ ∀ i, i < 804 → cs[i]? = some (c i)
def upd (c : Nat → Value) (k : Nat) (v : Value) : Nat → Value := fun i => if i = k then v else c i
theorem upd_same (c : Nat → Value) (k : Nat) (v : Value) : upd c k v k = v := if_pos rfl
theorem upd_other {c : Nat → Value} {k i : Nat} {v : Value} (h : i ≠ k) : upd c k v i = c i := if_neg h
theorem Fn.cell {w : World} {B : Nat} {c : Nat → Value} (h : Fn w B c) (i : Nat) (hi : i < 804) : w.cell? ⟨B, i, none⟩ = some (c i) := by
 obtain ⟨cs, h1, h2, h3⟩ := h
 rw [h1.cell, h3 i hi]
theorem Fn.free {w : World} {B : Nat} {c : Nat → Value} (h : Fn w B c) (i : Nat) : w.frozen? ⟨B, i, none⟩ = false := by
 obtain ⟨cs, h1, _, _⟩ := h
 exact h1.free i
theorem Fn.lt {w : World} {B : Nat} {c : Nat → Value} (h : Fn w B c) : B < w.heap.size := by
 obtain ⟨cs, h1, _, _⟩ := h
 exact h1.lt
theorem Fn.set {w : World} {B : Nat} {c : Nat → Value} (h : Fn w B c) (k : Nat) (hk : k < 804) (v : Value) : Fn (w.setCell ⟨B, k, none⟩ v) B (upd c k v) := by
 obtain ⟨cs, h1, h2, h3⟩ := h
 refine ⟨cs.set! k v, h1.set k v, by simp [h2], fun i hi => ?_⟩
 by_cases e : i = k
 ·subst e
  rw [upd_same]
  simp [Array.set!, Array.setIfInBounds, h2, hi]
 ·rw [upd_other e, ← h3 i hi]
  simp [Array.set!, Array.setIfInBounds, h2, hk, Array.getElem?_set, Ne.symm e]
theorem Fn.drew {w : World} {B : Nat} {c : Nat → Value} (h : Fn w B c) : Fn w.drew B c := h
theorem Fn.drewN {w : World} {B : Nat} {c : Nat → Value} (h : Fn w B c) (n : Nat) : Fn (w.drewN n) B c := h
def DgC (c : Nat → Value) (ds : List Nat) : Prop := ∀ i (h : i < ds.length), c i = .int .u8 ((48 + ds[i] : Nat) : Int)
structure DecC (c : Nat → Value) (ds : List Nat) (dp : Int) (neg : Bool) : Prop where
 dg : DgC c ds
 nd : c 800 = .int .i64 ds.length
 dp : c 801 = .int .i64 dp
 ng : c 802 = .bool neg
 tr : c 803 = .bool false
 len : ds.length ≤ 800
 nine : DG ds
def Dec (w : World) (B : Nat) (ds : List Nat) (dp : Int) (neg : Bool) : Prop := ∃ c, Fn w B c ∧ DecC c ds dp neg
theorem DecC.cut {c : Nat → Value} {ds : List Nat} {dp : Int} {neg : Bool} (h : DecC c ds dp neg) (k : Nat) (hk : k ≤ ds.length) : DecC (upd c 800 (.int .i64 k)) (ds.take k) dp neg := by
 have hl : (ds.take k).length = k := by rw [List.length_take]; omega
 have := h.len
 refine ⟨fun i hi => ?_, ?_, ?_, ?_, ?_, by omega, fun d hd => h.nine d (List.mem_of_mem_take hd)⟩
 ·rw [hl] at hi
  rw [upd_other (by omega), h.dg i (by omega), List.getElem_take]
 ·rw [upd_same, hl]
 ·rw [upd_other (by decide)]; exact h.dp
 ·rw [upd_other (by decide)]; exact h.ng
 ·rw [upd_other (by decide)]; exact h.tr
def ndOf (w : World) (B : Nat) : Nat := (intOf ((w.cell? ⟨B, 800, none⟩).getD undef)).toNat
theorem ndOf_at {w : World} {B : Nat} {k : Nat} (h : w.cell? ⟨B, 800, none⟩ = some (.int .i64 k)) : ndOf w B = k := by
 unfold ndOf
 rw [h]
 simp [intOf]
def LTrim (ds : List Nat) (dp : Int) (neg : Bool) (B n : Nat) (w wr : World) : Prop := ∃ (m k : Nat) (c : Nat → Value), Hid (m + 1 ≤ ds.length ∧ ds = ds.take (m + 1) ++ List.replicate k 0 ∧ Fn wr B c ∧ DecC c (ds.take (m + 1)) dp neg ∧ Below n w wr)
theorem trim182 (B : Nat) (ds : List Nat) (dp : Int) (neg : Bool) (h0 : ∃ d r, ds = d :: r ∧ d ≠ 0) (w : World) (hw : Dec w B ds dp neg) (n : Nat) (hn : n ≤ B) :
  Calls Tryz.prog 182 #[.pointer (some ⟨B, 0, none⟩)] w fun e w' => e = .returned (.tuple #[]) ∧ (∃ ds' k, ds = ds' ++ List.replicate k 0 ∧ (∃ d r, ds' = d :: r ∧ d ≠ 0) ∧ (∀ x, ds'.getLast? = some x → x ≠ 0) ∧ Dec w' B ds' dp neg) ∧ Below n w w' := by
 obtain ⟨R, hR⟩ : ∃ R : World → Prop, R = fun w' => (∃ ds' k, ds = ds' ++ List.replicate k 0 ∧ (∃ d r, ds' = d :: r ∧ d ≠ 0) ∧ (∀ x, ds'.getLast? = some x → x ≠ 0) ∧ Dec w' B ds' dp neg) ∧ Below n w w' := ⟨_, rfl⟩
 have hR' : ∀ w', R w' → (∃ ds' k, ds = ds' ++ List.replicate k 0 ∧ (∃ d r, ds' = d :: r ∧ d ≠ 0) ∧ (∀ x, ds'.getLast? = some x → x ≠ 0) ∧ Dec w' B ds' dp neg) ∧ Below n w w' := fun w' h => by rw [hR] at h; exact h
 suffices hx : Calls Tryz.prog 182 #[.pointer (some ⟨B, 0, none⟩)] w fun e w' => e = .returned (.tuple #[]) ∧ R w' from hx.mono fun e w' h => ⟨h.1, hR' w' h.2⟩
 clear hR'
 replace hR := hid hR
 obtain ⟨c0, hF0, hD0⟩ := hw
 replace hF0 := hid hF0
 replace hD0 := hid hD0
 replace h0 := hid h0
 go_enter Tryz.func182, Tryz.ntmps182
 go_wp2_with fail
 go_loopw [2] (fun _ wr => LTrim ds dp neg B n w wr) (fun _ wr => ndOf wr B)
 case atStart =>
  obtain ⟨d, r, e, hd⟩ := h0.out
  refine ⟨r.length, 0, c0, hid ⟨by rw [e]; simp, ?_, hF0.out, ?_, Below.refl _ _⟩⟩
  ·rw [List.take_of_length_le (by rw [e]; simp)]; simp
  ·rw [List.take_of_length_le (by rw [e]; simp)]; exact hD0.out
 case round =>
  obtain ⟨m, k, c, hV⟩ := hrel
  have hm := hV.out.1
  have hF := hV.out.2.2.1
  have hC := hV.out.2.2.2.1
  have hlen : (ds.take (m + 1)).length = m + 1 := by rw [List.length_take]; omega
  have h800 : m + 1 ≤ 800 := by have := hC.len; omega
  have c1 := hF.cell 800 (by omega)
  have c2 := hF.cell m (by omega)
  have f1 := hF.free 800
  rw [hC.nd, hlen] at c1
  rw [hC.dg m (by omega)] at c2
  obtain ⟨dg, hdg⟩ : ∃ dg, dg = (ds.take (m + 1))[m]'(by omega) := ⟨_, rfl⟩
  rw [← hdg] at c2
  have hnd := ndOf_at c1
  by_cases hz : dg = 0
  ·have hm0 : m ≠ 0 := by
    rintro rfl
    obtain ⟨d, r, e, hd⟩ := h0.out
    apply hd
    rw [← hz, hdg]
    simp [e]
   have hcut : DecC (upd c 800 (.int .i64 (m : Int))) (ds.take m) dp neg := by
    have := hC.cut m (by omega)
    rwa [List.take_take, Nat.min_eq_left (by omega)] at this
   have hds : ds = ds.take m ++ List.replicate (k + 1) 0 := by
    have h1 := hV.out.2.1
    have h2 : ds.take (m + 1) = ds.take m ++ [0] := by
     rw [List.take_succ_eq_append_getElem (by omega)]
     congr 1
     rw [← hz, hdg]
     simp
    rw [h2, List.append_assoc] at h1
    rw [List.replicate_succ]
    exact h1
   have hfin : ∀ v : Value, v = .int .i64 (m : Int) → LTrim ds dp neg B n w (wr.drew.setCell ⟨B, 800, none⟩ v) := by
    rintro v rfl
    refine ⟨m - 1, k + 1, _, hid ⟨by omega, ?_, hF.drew.set 800 (by decide) _, ?_, hV.out.2.2.2.2.drew.setCell hn _⟩⟩
    ·rw [show m - 1 + 1 = m by omega]; exact hds
    ·rw [show m - 1 + 1 = m by omega]; exact hcut
   have hmes : ∀ v : Value, v = .int .i64 (m : Int) → ndOf (wr.drew.setCell ⟨B, 800, none⟩ v) B = m := by
    rintro v rfl
    exact ndOf_at (by rw [(hF.drew.set 800 (by decide) _).cell 800 (by decide), upd_same])
   rw [hz] at c2
   replace hdg := hid hdg
   replace hfin := hid hfin
   replace hmes := hid hmes
   replace hnd := hid hnd
   clear hdg hds hcut hC hm hlen hz hm0
   go_wp2_with fail
   go_region
   go_wp2_with fail
   go_roundw
   case rel => exact hfin.out _ (by first | rfl | go_num)
   case measure =>
    exact Nat.lt_of_le_of_lt (Nat.le_of_eq (hmes.out _ rfl)) (by rw [hnd.out]; omega)
  ·have b48 : ((48 + (dg : Int)) == 48) = false := bne_of (by omega)
   have hfin : R wr.drew := by
    rw [hR.out]
    refine ⟨⟨ds.take (m + 1), k, hV.out.2.1, ?_, ?_, c, hF.drew, hC⟩, hV.out.2.2.2.2.drew⟩
    ·obtain ⟨d, r, e, hd⟩ := h0.out
     exact ⟨d, r.take m, by rw [e]; rfl, hd⟩
    ·intro x hx
     rw [List.getLast?_eq_getElem?, hlen, Nat.add_sub_cancel, List.getElem?_eq_getElem (by omega)] at hx
     injection hx with hx
     rw [← hx, ← hdg]
     exact hz
   have hm1 : ((m : Int) + 1 == 0) = false := bne_of (by omega)
   replace hdg := hid hdg
   replace hfin := hid hfin
   replace hnd := hid hnd
   clear hdg hC hm hlen hz
   go_wp2_with fail
   go_region
   go_wp2_with fail
   go_end0
   exact ⟨rfl, hfin.out⟩
end
end Go.Proofs.YtlgneiaenanfaaaGreatDoor
