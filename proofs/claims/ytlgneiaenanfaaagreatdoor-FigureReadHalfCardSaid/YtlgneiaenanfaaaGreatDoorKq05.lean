/- Walks and plain laws, merged: FpE. No condition. -/
import Derived.Test.YtlgneiaenanfaaaGreatDoorKq04
namespace Go.Proofs.YtlgneiaenanfaaaGreatDoor
open Go.RowKit
set_option linter.unusedVariables false
set_option linter.unusedSimpArgs false
set_option maxRecDepth 100000
set_option maxHeartbeats 64000000
section
set_option maxRecDepth 100000
open Go
def isD (c : Int) : Bool := decide (48 ≤ c) && decide (c ≤ 57)
def isH (c : Int) : Bool := isD c || (decide (97 ≤ c) && decide (c ≤ 102)) || (decide (65 ≤ c) && decide (c ≤ 70))
def decF (st c : Int) : Int :=
 if isD c then (if st = 0 ∨ st = 1 then (if c = 48 then 2 else 3) else if st = 2 ∨ st = 3 then 3 else if st = 4 ∨ st = 5 then 5 else if st = 6 ∨ st = 7 ∨ st = 8 then 8 else 22)
 else if c = 46 ∧ (st = 2 ∨ st = 3) then 4
 else if (c = 101 ∨ c = 69) ∧ (st = 2 ∨ st = 3 ∨ st = 5) then 6
 else if (c = 43 ∨ c = 45) ∧ st = 6 then 7
 else if c = 120 ∧ st = 2 then 9
 else if c = 45 ∧ st = 0 then 1
 else 22
def hexF (st c : Int) : Int :=
 if 13 ≤ st then (if isD c then 15 else if (c = 43 ∨ c = 45) ∧ st = 13 then 14 else 22)
 else if isH c then (if st = 11 ∨ st = 12 then 12 else 10)
 else if c = 46 ∧ st = 10 then 11
 else if c = 112 ∧ (st = 10 ∨ st = 12) then 13
 else 22
def stepF (st c : Int) : Int :=
 if st = 0 ∧ c = 110 then 16
 else if st = 16 ∧ c = 97 then 17
 else if st = 17 ∧ c = 110 then 18
 else if (st = 0 ∨ st = 1) ∧ c = 105 then 19
 else if st = 19 ∧ c = 110 then 20
 else if st = 20 ∧ c = 102 then 21
 else if 16 ≤ st then 22
 else if 9 ≤ st then hexF st c
 else decF st c
def finF (st : Int) : Bool := st == 2 || st == 3 || st == 5 || st == 8 || st == 15 || st == 18 || st == 21
def auS (st : Int) : List Int → Nat → Option Nat
 | [], at_ => if finF st then none else some at_
 | c :: r, at_ => if stepF st c = 22 then some at_ else auS (stepF st c) r (at_ + 1)
/-! ### the document's -/
def wordR : List Int → List Int → Nat → Option Nat
 | [], [], _ => none
 | [], _ :: _, at_ => some at_
 | _ :: _, [], at_ => some at_
 | a :: w, b :: l, at_ => if a = b then wordR w l (at_ + 1) else some at_
def rowR (p : Int → Bool) (l : List Int) : Nat := (l.takeWhile p).length
def signR : List Int → Nat
 | c :: _ => if c = 43 ∨ c = 45 then 1 else 0
 | [] => 0
def powR (l : List Int) (at_ : Nat) : Option Nat :=
 let l1 := l.drop (signR l)
 if rowR isD l1 = 0 ∨ rowR isD l1 < l1.length then some (at_ + signR l + rowR isD l1) else none
def expR (h : Bool) (l : List Int) (at_ : Nat) : Option Nat :=
 match l with
 | [] => if h then some at_ else none
 | c :: r => if (if h then c = 112 else c = 101 ∨ c = 69) then powR r (at_ + 1) else some at_
def tailR (h : Bool) (l : List Int) (at_ : Nat) : Option Nat :=
 match l with
 | c :: r => if c = 46 then (if rowR (if h then isH else isD) r = 0 then some (at_ + 1) else expR h (r.drop (rowR (if h then isH else isD) r)) (at_ + 1 + rowR (if h then isH else isD) r)) else expR h (c :: r) at_
 | [] => expR h [] at_
def numR (l : List Int) (at_ : Nat) : Option Nat :=
 match l with
 | 48 :: 120 :: r => if rowR isH r = 0 then some (at_ + 2) else tailR true (r.drop (rowR isH r)) (at_ + 2 + rowR isH r)
 | l => if rowR isD l = 0 then some at_ else tailR false (l.drop (rowR isD l)) (at_ + rowR isD l)
def scanR (l : List Int) : Option Nat :=
 match l with
 | 45 :: 105 :: r => wordR [105, 110, 102] (105 :: r) 1
 | 45 :: r => numR r 1
 | 105 :: r => wordR [105, 110, 102] (105 :: r) 0
 | 110 :: r => wordR [110, 97, 110] (110 :: r) 0
 | l => numR l 0
/-! ### the same -/
theorem rowR_cons (p : Int → Bool) (c : Int) (r : List Int) : rowR p (c :: r) = if p c then rowR p r + 1 else 0 := by
 unfold rowR
 rw [List.takeWhile_cons]
 split <;> simp
theorem rowR_nil (p : Int → Bool) : rowR p [] = 0 := rfl
theorem rowR_le (p : Int → Bool) (l : List Int) : rowR p l ≤ l.length := (List.takeWhile_prefix p).length_le
theorem row_drop (p : Int → Bool) : ∀ l : List Int, l.drop (rowR p l) = [] ∨ ∃ c r, l.drop (rowR p l) = c :: r ∧ p c = false
 | [] => .inl rfl
 | c :: r => by
  rw [rowR_cons]
  by_cases h : p c = true
  ·rw [if_pos h, List.drop_succ_cons]; exact row_drop p r
  ·rw [if_neg h]; exact .inr ⟨c, r, rfl, by simpa using h⟩
theorem au_row (p : Int → Bool) (st : Int) (h22 : st ≠ 22) (hp : ∀ c, p c = true → stepF st c = st) : ∀ (l : List Int) (at_ : Nat), auS st l at_ = auS st (l.drop (rowR p l)) (at_ + rowR p l)
 | [], _ => rfl
 | c :: r, at_ => by
  rw [rowR_cons]
  by_cases h : p c = true
  ·rw [if_pos h, List.drop_succ_cons, auS, hp c h, if_neg h22, au_row p st h22 hp r (at_ + 1)]
   congr 1
   omega
  ·rw [if_neg h]; rfl
theorem isD_H {c : Int} (h : isD c = true) : isH c = true := by unfold isH; rw [h]; rfl
theorem isD_iff {c : Int} : isD c = true ↔ 48 ≤ c ∧ c ≤ 57 := by unfold isD; simp
theorem isH_iff {c : Int} : isH c = true ↔ (48 ≤ c ∧ c ≤ 57) ∨ (97 ≤ c ∧ c ≤ 102) ∨ (65 ≤ c ∧ c ≤ 70) := by unfold isH isD; simp; omega
theorem au_exp (e : Int) (he : e = 8 ∨ e = 15) (l : List Int) (at_ : Nat) : auS e l at_ = if rowR isD l < l.length then some (at_ + rowR isD l) else none := by
 have hs : ∀ c, isD c = true → stepF e c = e := fun c hc => by
  have := isD_iff.1 hc
  rcases he with rfl | rfl
  ·simp [stepF, decF, hc]
  ·simp [stepF, hexF, hc]
 have hn : ∀ c, isD c = false → stepF e c = 22 := fun c hc => by
  rcases he with rfl | rfl
  ·simp [stepF, decF, hc]
  ·simp [stepF, hexF, hc]
 rw [au_row isD e (by omega) hs l at_]
 have hle := rowR_le isD l
 rcases row_drop isD l with h | ⟨c, r, h, hc⟩
 ·rw [h]
  have hl : l.length ≤ rowR isD l := by simpa using h
  rw [if_neg (by omega)]
  rcases he with rfl | rfl <;> rfl
 ·rw [h, auS, if_pos (hn c hc)]
  have : (l.drop (rowR isD l)).length ≠ 0 := by rw [h]; simp
  rw [List.length_drop] at this
  rw [if_pos (by omega)]
theorem au_sgn (s : Int) (hs : s = 7 ∨ s = 14) (l : List Int) (at_ : Nat) : auS s l at_ = if rowR isD l = 0 ∨ rowR isD l < l.length then some (at_ + rowR isD l) else none := by
 cases l with
 | nil =>
  rw [if_pos (.inl rfl)]
  rcases hs with rfl | rfl <;> rfl
 | cons c r =>
  by_cases hc : isD c = true
  ·have h1 : stepF s c = 8 ∨ stepF s c = 15 := by
    rcases hs with rfl | rfl
    ·left; simp [stepF, decF, hc]
    ·right; simp [stepF, hexF, hc]
   rw [auS, if_neg (by omega), au_exp _ h1, rowR_cons, if_pos hc, List.length_cons]
   by_cases h2 : rowR isD r < r.length
   ·rw [if_pos h2, if_pos (.inr (by omega))]
    congr 1
    omega
   ·rw [if_neg h2, if_neg (by omega)]
  ·have h1 : stepF s c = 22 := by
    rcases hs with rfl | rfl
    ·simp [stepF, decF, hc]
    ·simp [stepF, hexF, hc]
   rw [auS, if_pos h1, rowR_cons, if_neg hc, if_pos (.inl rfl)]
   rfl
theorem au_pow (p : Int) (hp : p = 6 ∨ p = 13) (l : List Int) (at_ : Nat) : auS p l at_ = powR l at_ := by
 cases l with
 | nil =>
  rcases hp with rfl | rfl <;> rfl
 | cons c r =>
  unfold powR
  by_cases hs : c = 43 ∨ c = 45
  ·have hd : isD c = false := by
    have : ¬ isD c = true := fun q => by have := isD_iff.1 q; omega
    simpa using this
   have h1 : stepF p c = 7 ∨ stepF p c = 14 := by
    rcases hp with rfl | rfl
    ·left; rcases hs with rfl | rfl <;> rfl
    ·right; rcases hs with rfl | rfl <;> rfl
   rw [auS, if_neg (by omega), au_sgn _ h1]
   simp only [signR, if_pos hs, List.drop_succ_cons, List.drop_zero]
  ·have h0 : signR (c :: r) = 0 := by simp only [signR, if_neg hs]
   simp only [h0, List.drop_zero, Nat.add_zero]
   by_cases hc : isD c = true
   ·have h1 : stepF p c = 8 ∨ stepF p c = 15 := by
     rcases hp with rfl | rfl
     ·left; simp [stepF, decF, hc]
     ·right; simp [stepF, hexF, hc]
    rw [auS, if_neg (by omega), au_exp _ h1, rowR_cons, if_pos hc, List.length_cons]
    by_cases h2 : rowR isD r < r.length
    ·rw [if_pos h2, if_pos (.inr (by omega))]
     congr 1
     omega
    ·rw [if_neg h2, if_neg (by omega)]
   ·have h1 : stepF p c = 22 := by
     rcases hp with rfl | rfl
     ·simp [stepF, decF, hc, hs]
     ·simp [stepF, hexF, hc, hs]
    rw [auS, if_pos h1, rowR_cons, if_neg hc, if_pos (.inl rfl)]
    rfl
def pD (h : Bool) : Int → Bool := if h then isH else isD
theorem au_part (h : Bool) (st : Int) (hst : st = if h then 12 else 5) (l : List Int) (at_ : Nat) : auS st l at_ = expR h (l.drop (rowR (pD h) l)) (at_ + rowR (pD h) l) := by
 have hs : ∀ c, pD h c = true → stepF st c = st := fun c hc => by
  subst hst
  cases h
  ·have hc' : isD c = true := hc
   have := isD_iff.1 hc'
   simp [stepF, decF, hc']
  ·have hc' : isH c = true := hc
   simp [stepF, hexF, hc']
 rw [au_row (pD h) st (by subst hst; cases h <;> decide) hs l at_]
 rcases row_drop (pD h) l with h1 | ⟨c, r, h1, hc⟩
 ·rw [h1]
  subst hst
  cases h
  ·rfl
  ·rfl
 ·rw [h1, auS]
  subst hst
  cases h
  ·have hc' : isD c = false := hc
   by_cases he : c = 101 ∨ c = 69
   ·have h2 : stepF (if false = true then 12 else 5) c = 6 := by
     rcases he with rfl | rfl <;> rfl
    rw [h2, if_neg (by omega), au_pow 6 (.inl rfl)]
    simp only [expR, if_pos he, Bool.false_eq_true, if_false]
   ·have h2 : stepF (if false = true then 12 else 5) c = 22 := by
     have : ¬ c = 46 ∨ True := .inr trivial
     simp [stepF, decF, hc', he]
    rw [h2, if_pos rfl]
    simp only [expR, if_neg he, Bool.false_eq_true, if_false]
  ·have hc' : isH c = false := hc
   by_cases he : c = 112
   ·subst he
    have h2 : stepF (if true = true then 12 else 5) 112 = 13 := rfl
    rw [h2, if_neg (by omega), au_pow 13 (.inr rfl)]
    simp [expR]
   ·have h2 : stepF (if true = true then 12 else 5) c = 22 := by
     simp [stepF, hexF, hc', he]
    rw [h2, if_pos rfl]
    simp [expR, he]
theorem au_point (h : Bool) (st : Int) (hst : st = if h then 11 else 4) (l : List Int) (at_ : Nat) : auS st l at_ = if rowR (pD h) l = 0 then some at_ else expR h (l.drop (rowR (pD h) l)) (at_ + rowR (pD h) l) := by
 cases l with
 | nil =>
  rw [rowR_nil, if_pos rfl]
  subst hst
  cases h <;> rfl
 | cons c r =>
  by_cases hc : pD h c = true
  ·have h1 : stepF st c = if h then 12 else 5 := by
    subst hst
    cases h
    ·have hc' : isD c = true := hc
     have := isD_iff.1 hc'
     simp [stepF, decF, hc']
    ·have hc' : isH c = true := hc
     simp [stepF, hexF, hc']
   rw [auS, if_neg (by rw [h1]; cases h <;> decide), au_part h _ h1, rowR_cons, if_pos hc, if_neg (by omega), List.drop_succ_cons]
   congr 1
   omega
  ·have h1 : stepF st c = 22 := by
    subst hst
    cases h
    ·have hc' : ¬ isD c = true := hc
     simp [stepF, decF, hc']
    ·have hc' : ¬ isH c = true := hc
     simp [stepF, hexF, hc']
   rw [auS, if_pos h1, rowR_cons, if_neg hc, if_pos rfl]
theorem tailR_eq (h : Bool) (l : List Int) (at_ : Nat) : tailR h l at_ = match l with
  | c :: r => if c = 46 then (if rowR (pD h) r = 0 then some (at_ + 1) else expR h (r.drop (rowR (pD h) r)) (at_ + 1 + rowR (pD h) r)) else expR h (c :: r) at_
  | [] => expR h [] at_ := by
 cases h <;> rfl
theorem au_whole (h : Bool) (st : Int) (hst : st = if h then 10 else 3) (l : List Int) (at_ : Nat) : auS st l at_ = tailR h (l.drop (rowR (pD h) l)) (at_ + rowR (pD h) l) := by
 have hs : ∀ c, pD h c = true → stepF st c = st := fun c hc => by
  subst hst
  cases h
  ·have hc' : isD c = true := hc
   have := isD_iff.1 hc'
   simp [stepF, decF, hc']
  ·have hc' : isH c = true := hc
   simp [stepF, hexF, hc']
 rw [au_row (pD h) st (by subst hst; cases h <;> decide) hs l at_, tailR_eq]
 rcases row_drop (pD h) l with h1 | ⟨c, r, h1, hc⟩
 ·rw [h1]
  subst hst
  cases h <;> rfl
 ·rw [h1]
  simp only []
  by_cases hp : c = 46
  ·subst hp
   rw [if_pos rfl, auS]
   have h2 : stepF st 46 = if h then 11 else 4 := by
    subst hst
    cases h <;> rfl
   rw [if_neg (by rw [h2]; cases h <;> decide), au_point h _ h2]
  ·rw [if_neg hp, auS]
   subst hst
   cases h
   ·have hc' : isD c = false := hc
    by_cases he : c = 101 ∨ c = 69
    ·have h2 : stepF (if false = true then 10 else 3) c = 6 := by
      rcases he with rfl | rfl <;> rfl
     rw [h2, if_neg (by omega), au_pow 6 (.inl rfl)]
     simp only [expR, if_pos he, Bool.false_eq_true, if_false]
    ·have h2 : stepF (if false = true then 10 else 3) c = 22 := by
      simp [stepF, decF, hc', he, hp]
     rw [h2, if_pos rfl]
     simp only [expR, if_neg he, Bool.false_eq_true, if_false]
   ·have hc' : isH c = false := hc
    by_cases he : c = 112
    ·subst he
     have h2 : stepF (if true = true then 10 else 3) 112 = 13 := rfl
     rw [h2, if_neg (by omega), au_pow 13 (.inr rfl)]
     simp [expR]
    ·have h2 : stepF (if true = true then 10 else 3) c = 22 := by
      simp [stepF, hexF, hc', he, hp]
     rw [h2, if_pos rfl]
     simp [expR, he]
theorem au_zero (l : List Int) (at_ : Nat) (h : ∀ r, l ≠ 120 :: r) : auS 2 l at_ = auS 3 l at_ := by
 cases l with
 | nil => rfl
 | cons c r =>
  have hc : ¬ c = 120 := fun e => h r (by rw [e])
  have : stepF 2 c = stepF 3 c := by simp [stepF, decF, hc]
  rw [auS, auS, this]
theorem au_mark (l : List Int) (at_ : Nat) : auS 9 l at_ = if rowR isH l = 0 then some at_ else tailR true (l.drop (rowR isH l)) (at_ + rowR isH l) := by
 cases l with
 | nil => rfl
 | cons c r =>
  by_cases hc : isH c = true
  ·have h1 : stepF 9 c = 10 := by simp [stepF, hexF, hc]
   have h2 := au_whole true 10 rfl r (at_ + 1)
   have e : pD true = isH := rfl
   rw [e] at h2
   rw [auS, h1, if_neg (by omega), h2, rowR_cons, if_pos hc, if_neg (by omega), List.drop_succ_cons]
   congr 1
   omega
  ·have h1 : stepF 9 c = 22 := by
    simp [stepF, hexF, hc]
   rw [auS, h1, if_pos rfl, rowR_cons, if_neg hc, if_pos rfl]
theorem au_num (st : Int) (hst : st = 0 ∨ st = 1) (l : List Int) (at_ : Nat) (h1 : ∀ r, l ≠ 105 :: r) (h2 : ∀ r, l ≠ 110 :: r) (h3 : ∀ r, l ≠ 45 :: r) : auS st l at_ = numR l at_ := by
 cases l with
 | nil => rcases hst with rfl | rfl <;> rfl
 | cons c r =>
  have n1 : ¬ c = 105 := fun e => h1 r (by rw [e])
  have n2 : ¬ c = 110 := fun e => h2 r (by rw [e])
  have n3 : ¬ c = 45 := fun e => h3 r (by rw [e])
  have e : pD false = isD := rfl
  by_cases hc : isD c = true
  ·by_cases h0 : c = 48
   ·subst h0
    have s1 : stepF st 48 = 2 := by rcases hst with rfl | rfl <;> rfl
    rw [auS, s1, if_neg (by omega)]
    by_cases hx : ∃ q, r = 120 :: q
    ·obtain ⟨q, rfl⟩ := hx
     have s2 : stepF 2 120 = 9 := rfl
     rw [auS, s2, if_neg (by omega), au_mark]
     rfl
    ·have hx' : ∀ q, r ≠ 120 :: q := fun q hq => hx ⟨q, hq⟩
     have h4 := au_whole false 3 rfl r (at_ + 1)
     rw [e] at h4
     rw [au_zero r _ hx', h4]
     have hn : numR (48 :: r) at_ = if rowR isD (48 :: r) = 0 then some at_ else tailR false ((48 :: r).drop (rowR isD (48 :: r))) (at_ + rowR isD (48 :: r)) := by
      unfold numR
      split
      ·rename_i q heq
       simp only [List.cons.injEq, true_and] at heq
       exact absurd heq (hx' q)
      ·rfl
     rw [hn, rowR_cons, if_pos hc, if_neg (by omega), List.drop_succ_cons]
     congr 1
     omega
   ·have s1 : stepF st c = 3 := by
     have := isD_iff.1 hc
     rcases hst with rfl | rfl
     ·simp [stepF, decF, hc, h0, n1, n2]
     ·simp [stepF, decF, hc, h0, n1]
    have h4 := au_whole false 3 rfl r (at_ + 1)
    rw [e] at h4
    have hn : numR (c :: r) at_ = if rowR isD (c :: r) = 0 then some at_ else tailR false ((c :: r).drop (rowR isD (c :: r))) (at_ + rowR isD (c :: r)) := by
     unfold numR
     split
     ·rename_i q heq
      simp only [List.cons.injEq] at heq
      exact absurd heq.1 h0
     ·rfl
    rw [auS, s1, if_neg (by omega), h4, hn, rowR_cons, if_pos hc, if_neg (by omega), List.drop_succ_cons]
    congr 1
    omega
  ·have s1 : stepF st c = 22 := by
    rcases hst with rfl | rfl
    ·simp [stepF, decF, hc, n1, n2, n3]
    ·simp [stepF, decF, hc, n1]
   have hn : numR (c :: r) at_ = if rowR isD (c :: r) = 0 then some at_ else tailR false ((c :: r).drop (rowR isD (c :: r))) (at_ + rowR isD (c :: r)) := by
    unfold numR
    split
    ·rename_i q heq
     simp only [List.cons.injEq] at heq
     exact absurd (isD_iff.2 (by omega)) hc
    ·rfl
   rw [auS, s1, if_pos rfl, hn, rowR_cons, if_neg hc, if_pos rfl]
theorem au_inf (l : List Int) (at_ : Nat) : auS 19 l at_ = wordR [110, 102] l at_ := by
 have d21 : ∀ c, stepF 21 c = 22 := fun c => by simp [stepF]
 match l with
 | [] => rfl
 | c :: r =>
  by_cases h : c = 110
  ·subst h
   have s1 : stepF 19 110 = 20 := rfl
   rw [auS, s1, if_neg (by omega)]
   match r with
   | [] => rfl
   | d :: q =>
    by_cases h2 : d = 102
    ·subst h2
     have s2 : stepF 20 102 = 21 := rfl
     rw [auS, s2, if_neg (by omega)]
     match q with
     | [] => rfl
     | x :: y => rw [auS, d21, if_pos rfl]; rfl
    ·have s2 : stepF 20 d = 22 := by simp [stepF, h2]
     rw [auS, s2, if_pos rfl]
     simp [wordR, Ne.symm h2]
  ·have s1 : stepF 19 c = 22 := by simp [stepF, h]
   rw [auS, s1, if_pos rfl]
   simp [wordR, Ne.symm h]
theorem au_nan (l : List Int) (at_ : Nat) : auS 16 l at_ = wordR [97, 110] l at_ := by
 have d18 : ∀ c, stepF 18 c = 22 := fun c => by simp [stepF]
 match l with
 | [] => rfl
 | c :: r =>
  by_cases h : c = 97
  ·subst h
   have s1 : stepF 16 97 = 17 := rfl
   rw [auS, s1, if_neg (by omega)]
   match r with
   | [] => rfl
   | d :: q =>
    by_cases h2 : d = 110
    ·subst h2
     have s2 : stepF 17 110 = 18 := rfl
     rw [auS, s2, if_neg (by omega)]
     match q with
     | [] => rfl
     | x :: y => rw [auS, d18, if_pos rfl]; rfl
    ·have s2 : stepF 17 d = 22 := by simp [stepF, h2]
     rw [auS, s2, if_pos rfl]
     simp [wordR, Ne.symm h2]
  ·have s1 : stepF 16 c = 22 := by simp [stepF, h]
   rw [auS, s1, if_pos rfl]
   simp [wordR, Ne.symm h]
theorem scan_same (l : List Int) : auS 0 l 0 = scanR l := by
 unfold scanR
 split
 ·rename_i r
  have s1 : stepF 0 45 = 1 := rfl
  have s2 : stepF 1 105 = 19 := rfl
  rw [auS, s1, if_neg (by omega), auS, s2, if_neg (by omega), au_inf]
  rfl
 ·rename_i r hne
  have s1 : stepF 0 45 = 1 := rfl
  rw [auS, s1, if_neg (by omega)]
  by_cases h2 : ∃ q, r = 110 :: q
  ·obtain ⟨q, rfl⟩ := h2
   have s2 : stepF 1 110 = 22 := rfl
   rw [auS, s2, if_pos rfl]
   rfl
  ·by_cases h3 : ∃ q, r = 45 :: q
   ·obtain ⟨q, rfl⟩ := h3
    have s2 : stepF 1 45 = 22 := rfl
    rw [auS, s2, if_pos rfl]
    rfl
   ·exact au_num 1 (.inr rfl) r 1 (fun q e => hne q (by rw [e])) (fun q e => h2 ⟨q, e⟩) (fun q e => h3 ⟨q, e⟩)
 ·rename_i r
  have s2 : stepF 0 105 = 19 := rfl
  rw [auS, s2, if_neg (by omega), au_inf]
  rfl
 ·rename_i r
  have s2 : stepF 0 110 = 16 := rfl
  rw [auS, s2, if_neg (by omega), au_nan]
  rfl
 ·rename_i h1 h2 h3 h4
  exact au_num 0 (.inl rfl) l 0 (fun q e => h3 q e) (fun q e => h4 q e) (fun q e => h2 q e)
def hxv (c : Int) : Nat := (if isD c then c - 48 else if 97 ≤ c then c - 87 else c - 55).toNat
def gat (B : Nat) (l : List Int) (a : Nat) : Nat := l.foldl (fun a c => a * B + hxv c) a
theorem gat_nil (B a : Nat) : gat B [] a = a := rfl
theorem gat_cons (B a : Nat) (c : Int) (r : List Int) : gat B (c :: r) a = gat B r (a * B + hxv c) := rfl
theorem gat_app (B : Nat) (x y : List Int) (a : Nat) : gat B (x ++ y) a = gat B y (gat B x a) := by unfold gat; rw [List.foldl_append]
theorem gat_snoc (B : Nat) (x : List Int) (c : Int) (a : Nat) : gat B (x ++ [c]) a = gat B x a * B + hxv c := by rw [gat_app]; rfl
theorem gat_add (B : Nat) : ∀ (l : List Int) (a : Nat), gat B l a = a * B ^ l.length + gat B l 0
 | [], a => by simp [gat]
 | c :: r, a => by
  rw [gat_cons, gat_cons, gat_add B r (a * B + hxv c), gat_add B r (0 * B + hxv c), List.length_cons, Nat.pow_succ]
  generalize B ^ r.length = z
  generalize gat B r 0 = y
  grind
theorem hxv_lt {B : Nat} {h : Bool} (hB : B = if h then 16 else 10) {c : Int} (hc : pD h c = true) : hxv c < B := by
 unfold hxv
 cases h
 ·have hc' : isD c = true := hc
  have := isD_iff.1 hc'
  rw [if_pos hc', hB]
  simp only [Bool.false_eq_true, if_false]
  omega
 ·have hc' : isH c = true := hc
  have h3 := isH_iff.1 hc'
  rw [hB]
  simp only [if_true]
  by_cases h1 : isD c = true
  ·have := isD_iff.1 h1
   rw [if_pos h1]; omega
  ·rw [if_neg h1]
   have : ¬ (48 ≤ c ∧ c ≤ 57) := fun q => h1 (isD_iff.2 q)
   split <;> omega
theorem gat_lt {B : Nat} {h : Bool} (hB : B = if h then 16 else 10) : ∀ l : List Int, (∀ c ∈ l, pD h c = true) → gat B l 0 < B ^ l.length
 | [], _ => by simp [gat]
 | c :: r, hl => by
  have h1 := gat_lt hB r (fun x hx => hl x (List.mem_cons_of_mem _ hx))
  have h2 := hxv_lt hB (hl c List.mem_cons_self)
  rw [gat_cons, gat_add, Nat.zero_mul, Nat.zero_add, List.length_cons, Nat.pow_succ]
  have h3 : hxv c * B ^ r.length ≤ (B - 1) * B ^ r.length := Nat.mul_le_mul_right _ (by omega)
  have h4 : (B - 1) * B ^ r.length + B ^ r.length = B ^ r.length * B := by
   have : B = B - 1 + 1 := by omega
   conv => rhs; rw [this]
   grind
  omega
def dropZ (l : List Int) : List Int := l.dropWhile (fun c => c == 48)
theorem hxv_zero : hxv 48 = 0 := by decide
theorem gat_dropZ (B : Nat) : ∀ l : List Int, gat B (dropZ l) 0 = gat B l 0
 | [] => rfl
 | c :: r => by
  unfold dropZ
  rw [List.dropWhile_cons]
  by_cases h : c = 48
  ·subst h
   simp only [beq_self_eq_true, if_true]
   rw [gat_cons, hxv_zero]
   have := gat_dropZ B r
   unfold dropZ at this
   rw [this]
   simp
  ·have : (c == 48) = false := by simp [h]
   rw [this]
   simp
theorem dropZ_app (x : List Int) (c : Int) : dropZ (x ++ [c]) = if dropZ x = [] ∧ c = 48 then [] else dropZ x ++ [c] := by
 unfold dropZ
 induction x with
 | nil =>
  simp only [List.nil_append, List.dropWhile_cons, List.dropWhile_nil]
  by_cases h : c = 48
  ·subst h; simp
  ·have : (c == 48) = false := by simp [h]
   simp [h]
 | cons d r ih =>
  simp only [List.cons_append, List.dropWhile_cons]
  by_cases h : d = 48
  ·subst h; simpa using ih
  ·have : (d == 48) = false := by simp [h]
   simp [this]
def kM (B mx : Nat) (D : List Int) : Nat := gat B ((dropZ D).take mx) 0
def kN (D : List Int) : Nat := (dropZ D).length
def kK (mx : Nat) (D : List Int) : Nat := min mx (kN D)
def kT (mx : Nat) (D : List Int) : Bool := ((dropZ D).drop mx).any (fun c => c != 48)
theorem k_zero {B mx : Nat} {D : List Int} (h : kN D = 0) : kM B mx (D ++ [48]) = kM B mx D ∧ kN (D ++ [48]) = kN D ∧ kK mx (D ++ [48]) = kK mx D ∧ kT mx (D ++ [48]) = kT mx D := by
 have h1 : dropZ D = [] := List.eq_nil_of_length_eq_zero h
 have h2 : dropZ (D ++ [48]) = dropZ D := by rw [dropZ_app, if_pos ⟨h1, rfl⟩, h1]
 unfold kM kK kT kN
 rw [h2]
 exact ⟨rfl, rfl, rfl, rfl⟩
theorem k_more {B mx : Nat} {D : List Int} {c : Int} (h : kN D ≠ 0 ∨ c ≠ 48) : kN (D ++ [c]) = kN D + 1 ∧
  (kK mx D < mx → kM B mx (D ++ [c]) = kM B mx D * B + hxv c ∧ kK mx (D ++ [c]) = kK mx D + 1 ∧ kT mx (D ++ [c]) = kT mx D) ∧
  (¬ kK mx D < mx → kM B mx (D ++ [c]) = kM B mx D ∧ kK mx (D ++ [c]) = kK mx D ∧ kT mx (D ++ [c]) = (kT mx D || c != 48)) := by
 have h2 : dropZ (D ++ [c]) = dropZ D ++ [c] := by
  rw [dropZ_app, if_neg]
  rintro ⟨h3, h4⟩
  rcases h with h | h
  ·exact h (by unfold kN; rw [h3]; rfl)
  ·exact h h4
 unfold kK kM kT kN
 rw [h2]
 generalize dropZ D = S
 refine ⟨by simp, fun h3 => ?_, fun h3 => ?_⟩
 ·have h4 : S.length < mx := by omega
  rw [List.take_of_length_le (l := S ++ [c]) (by simp; omega), List.take_of_length_le (l := S) (by omega), List.drop_eq_nil_of_le (as := S ++ [c]) (by simp; omega), List.drop_eq_nil_of_le (as := S) (by omega), gat_snoc, List.length_append]
  refine ⟨rfl, by simp; omega, rfl⟩
 ·have h4 : mx ≤ S.length := by omega
  rw [List.take_append_of_le_length h4, List.drop_append_of_le_length h4, List.any_append, List.length_append]
  refine ⟨rfl, by simp; omega, by simp⟩
theorem k_lt {B mx : Nat} {h : Bool} (hB : B = if h then 16 else 10) {D : List Int} (hD : ∀ c ∈ D, pD h c = true) : kM B mx D < B ^ kK mx D := by
 unfold kM kK kN
 have h1 := gat_lt hB ((dropZ D).take mx) (fun c hc => hD c ((List.dropWhile_sublist _).subset ((List.take_sublist _ _).subset hc)))
 rw [List.length_take] at h1
 exact h1
theorem k_val {B mx : Nat} {h : Bool} (hB : B = if h then 16 else 10) {D : List Int} (hD : ∀ c ∈ D, pD h c = true) :
  kM B mx D * B ^ (kN D - kK mx D) ≤ gat B D 0 ∧ gat B D 0 < (kM B mx D + 1) * B ^ (kN D - kK mx D) ∧ (kT mx D = false → gat B D 0 = kM B mx D * B ^ (kN D - kK mx D)) := by
 have e1 : gat B D 0 = gat B (dropZ D) 0 := (gat_dropZ B D).symm
 rw [e1]
 unfold kM kK kN kT
 have hS : ∀ c ∈ dropZ D, pD h c = true := fun c hc => hD c ((List.dropWhile_sublist _).subset hc)
 generalize dropZ D = S at *
 have e2 : gat B S 0 = gat B (S.take mx) 0 * B ^ (S.drop mx).length + gat B (S.drop mx) 0 := by
  conv => lhs; rw [← List.take_append_drop mx S]
  rw [gat_app, gat_add]
 have e3 : (S.drop mx).length = S.length - min mx S.length := by rw [List.length_drop]; omega
 have h4 := gat_lt hB (S.drop mx) (fun c hc => hS c ((List.drop_sublist _ _).subset hc))
 rw [e2]
 rw [e3] at h4 ⊢
 refine ⟨by omega, by rw [Nat.add_mul, Nat.one_mul]; omega, fun ht => ?_⟩
 have h5 : ∀ l : List Int, l.any (fun c => c != 48) = false → gat B l 0 = 0 := by
  intro l
  induction l with
  | nil => intro _; rfl
  | cons c r ih =>
   intro hl
   simp only [List.any_cons, Bool.or_eq_false_iff, bne_eq_false_iff_eq] at hl
   rw [gat_cons, hl.1, hxv_zero, Nat.zero_mul, Nat.add_zero]
   exact ih hl.2
 rw [h5 _ ht, Nat.add_zero]
theorem k_nil {B mx : Nat} {h : Bool} (hB : B = if h then 16 else 10) (hm : 0 < mx) {D : List Int} (hD : ∀ c ∈ D, pD h c = true) (h0 : kM B mx D = 0) : gat B D 0 = 0 := by
 have h1 := (k_val (mx := mx) hB hD).2.2
 by_cases ht : dropZ D = []
 ·rw [← gat_dropZ, ht]; rfl
 ·exfalso
  obtain ⟨c, r, hc⟩ := List.exists_cons_of_ne_nil ht
  have hne : c ≠ 48 := fun e => by
   have h3 : (dropZ D).head? ≠ some 48 := by
    unfold dropZ
    intro q
    have h4 := List.head?_dropWhile_not (fun c : Int => c == 48) D
    rw [q] at h4
    simp at h4
   rw [hc, e] at h3
   exact h3 rfl
  have hcd : pD h c = true := hD c ((List.dropWhile_sublist _).subset (by show c ∈ dropZ D; rw [hc]; exact List.mem_cons_self))
  have hv : 1 ≤ hxv c := by
   unfold hxv
   cases h
   ·have hc' : isD c = true := hcd
    have := isD_iff.1 hc'
    rw [if_pos hc']; omega
   ·have hc' : isH c = true := hcd
    have h3 := isH_iff.1 hc'
    by_cases h5 : isD c = true
    ·have := isD_iff.1 h5
     rw [if_pos h5]; omega
    ·rw [if_neg h5]
     have : ¬ (48 ≤ c ∧ c ≤ 57) := fun q => h5 (isD_iff.2 q)
     split <;> omega
  unfold kM at h0
  rw [hc] at h0
  have e : (c :: r).take mx = c :: r.take (mx - 1) := by
   conv => lhs; rw [show mx = mx - 1 + 1 by omega]
   rfl
  rw [e, gat_cons, gat_add] at h0
  have hBp : 0 < B ^ (r.take (mx - 1)).length := Nat.pow_pos (by cases h <;> simp_all)
  have := Nat.mul_le_mul_right (B ^ (r.take (mx - 1)).length) (show 1 ≤ 0 * B + hxv c by omega)
  omega
end
end Go.Proofs.YtlgneiaenanfaaaGreatDoor
