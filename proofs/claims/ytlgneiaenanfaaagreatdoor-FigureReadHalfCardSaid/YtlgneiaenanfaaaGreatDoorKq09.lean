/- Walks and plain laws, merged: FqA FqB FqC FqD. No condition. -/
import Derived.Test.YtlgneiaenanfaaaGreatDoorKq05
namespace Go.Proofs.YtlgneiaenanfaaaGreatDoor
open Go.RowKit
set_option linter.unusedVariables false
set_option linter.unusedSimpArgs false
set_option maxRecDepth 100000
set_option maxHeartbeats 64000000
section
set_option maxRecDepth 100000
open Go
structure Fig where
 neg : Bool
 hex : Bool
 I : List Int
 dot : Bool
 F : List Int
 ex : Bool
 m : Int
 sg : List Int
 E : List Int
def Fig.U (g : Fig) : List Int := if g.ex then g.m :: (g.sg ++ g.E) else []
def Fig.T (g : Fig) : List Int := if g.dot then 46 :: (g.F ++ g.U) else g.U
def Fig.N (g : Fig) : List Int := if g.hex then 48 :: 120 :: (g.I ++ g.T) else g.I ++ g.T
def Fig.txt (g : Fig) : List Int := if g.neg then 45 :: g.N else g.N
structure Fig.Ok (g : Fig) : Prop where
 nI : g.I ≠ []
 pI : ∀ c ∈ g.I, pD g.hex c = true
 nF : g.dot = true → g.F ≠ []
 zF : g.dot = false → g.F = []
 pF : ∀ c ∈ g.F, pD g.hex c = true
 hx : g.hex = true → g.ex = true
 hm : (g.m = 112 ∧ g.hex = true) ∨ ((g.m = 101 ∨ g.m = 69) ∧ g.hex = false)
 nE : g.ex = true → g.E ≠ []
 pE : ∀ c ∈ g.E, isD c = true
 zE : g.ex = false → g.E = [] ∧ g.sg = []
 hs : g.sg = [] ∨ g.sg = [43] ∨ g.sg = [45]
theorem row_split (p : Int → Bool) (l : List Int) : l = l.takeWhile p ++ l.drop (rowR p l) := by
 induction l with
 | nil => rfl
 | cons c r ih =>
  rw [rowR_cons, List.takeWhile_cons]
  by_cases h : p c = true
  ·rw [if_pos h, if_pos h, List.drop_succ_cons, List.cons_append, ← ih]
  ·rw [if_neg h, if_neg h]; rfl
theorem row_mem (p : Int → Bool) (l : List Int) : ∀ c ∈ l.takeWhile p, p c = true := by
 induction l with
 | nil => intro c h; cases h
 | cons c r ih =>
  rw [List.takeWhile_cons]
  by_cases h : p c = true
  ·rw [if_pos h]
   intro x hx
   rcases List.mem_cons.1 hx with rfl | hx
   ·exact h
   ·exact ih x hx
  ·rw [if_neg h]
   intro x hx
   cases hx
theorem row_all {p : Int → Bool} {l : List Int} (h : ¬ rowR p l < l.length) : ∀ c ∈ l, p c = true := by
 have e := row_split p l
 rw [List.drop_eq_nil_of_le (by omega), List.append_nil] at e
 intro c hc
 rw [e] at hc
 exact row_mem p l c hc
theorem row_ne {p : Int → Bool} {l : List Int} (h : ¬ rowR p l = 0) : l.takeWhile p ≠ [] := by
 intro e
 apply h
 unfold rowR
 rw [e]
 rfl
theorem pow_none {l : List Int} {a : Nat} (h : powR l a = none) : ∃ sg E, l = sg ++ E ∧ (sg = [] ∨ sg = [43] ∨ sg = [45]) ∧ E ≠ [] ∧ ∀ c ∈ E, isD c = true := by
 unfold powR at h
 simp only [] at h
 split at h
 ·cases h
 ·rename_i hc
  have hc1 : ¬ rowR isD (l.drop (signR l)) = 0 := fun e => hc (Or.inl e)
  have hc2 : ¬ rowR isD (l.drop (signR l)) < (l.drop (signR l)).length := fun e => hc (Or.inr e)
  have hall := row_all hc2
  have hne : l.drop (signR l) ≠ [] := by
   intro e
   rw [e] at hc1
   exact hc1 rfl
  cases l with
  | nil => exact absurd rfl hne
  | cons c r =>
   simp only [signR] at hall hne
   by_cases hs : c = 43 ∨ c = 45
   ·rw [if_pos hs] at hall hne
    refine ⟨[c], r, rfl, ?_, hne, hall⟩
    rcases hs with rfl | rfl
    ·exact Or.inr (Or.inl rfl)
    ·exact Or.inr (Or.inr rfl)
   ·rw [if_neg hs] at hall hne
    exact ⟨[], c :: r, rfl, Or.inl rfl, hne, hall⟩
theorem exp_none {h : Bool} {l : List Int} {a : Nat} (hh : expR h l a = none) : ∃ (ex : Bool) (m : Int) (sg E : List Int), l = (if ex then m :: (sg ++ E) else []) ∧ (h = true → ex = true) ∧ ((m = 112 ∧ h = true) ∨ ((m = 101 ∨ m = 69) ∧ h = false)) ∧ (ex = true → E ≠ []) ∧ (∀ c ∈ E, isD c = true) ∧ (ex = false → E = [] ∧ sg = []) ∧ (sg = [] ∨ sg = [43] ∨ sg = [45]) := by
 cases l with
 | nil =>
  cases h with
  | true => simp [expR] at hh
  | false => exact ⟨false, 101, [], [], rfl, by simp, Or.inr ⟨Or.inl rfl, rfl⟩, by simp, by simp, by simp, Or.inl rfl⟩
 | cons c r =>
  simp only [expR] at hh
  by_cases hc : (if h = true then c = 112 else c = 101 ∨ c = 69)
  ·rw [if_pos hc] at hh
   obtain ⟨sg, E, e, h1, h2, h3⟩ := pow_none hh
   refine ⟨true, c, sg, E, by rw [e]; rfl, by simp, ?_, fun _ => h2, h3, by simp, h1⟩
   cases h with
   | true => exact Or.inl ⟨hc, rfl⟩
   | false => exact Or.inr ⟨by simpa using hc, rfl⟩
  ·rw [if_neg hc] at hh
   cases hh
theorem tail_none {h : Bool} {l : List Int} {a : Nat} (hh : tailR h l a = none) : ∃ (dot : Bool) (F U : List Int) (b : Nat), l = (if dot then 46 :: (F ++ U) else U) ∧ (dot = true → F ≠ []) ∧ (dot = false → F = []) ∧ (∀ c ∈ F, pD h c = true) ∧ expR h U b = none := by
 rw [tailR_eq] at hh
 cases l with
 | nil => exact ⟨false, [], [], a, rfl, by simp, by simp, by simp, hh⟩
 | cons c r =>
  simp only [] at hh
  by_cases hc : c = 46
  ·rw [if_pos hc] at hh
   by_cases h0 : rowR (pD h) r = 0
   ·rw [if_pos h0] at hh; cases hh
   ·rw [if_neg h0] at hh
    exact ⟨true, r.takeWhile (pD h), r.drop (rowR (pD h) r), _, by rw [hc, if_pos rfl, ← row_split], fun _ => row_ne h0, by simp, row_mem _ _, hh⟩
  ·rw [if_neg hc] at hh
   exact ⟨false, [], c :: r, a, rfl, by simp, by simp, by simp, hh⟩
theorem num_none {l : List Int} {a : Nat} (hh : numR l a = none) : ∃ g : Fig, g.Ok ∧ g.neg = false ∧ l = g.N := by
 have key : ∃ (h : Bool) (I T : List Int) (b : Nat), l = (if h then 48 :: 120 :: (I ++ T) else I ++ T) ∧ I ≠ [] ∧ (∀ c ∈ I, pD h c = true) ∧ tailR h T b = none := by
  unfold numR at hh
  split at hh
  ·rename_i r
   by_cases h0 : rowR isH r = 0
   ·rw [if_pos h0] at hh; cases hh
   ·rw [if_neg h0] at hh
    exact ⟨true, r.takeWhile isH, r.drop (rowR isH r), _, by rw [if_pos rfl, ← row_split], row_ne h0, row_mem _ _, hh⟩
  ·by_cases h0 : rowR isD l = 0
   ·rw [if_pos h0] at hh; cases hh
   ·rw [if_neg h0] at hh
    exact ⟨false, l.takeWhile isD, l.drop (rowR isD l), _, by rw [if_neg (by simp), ← row_split], row_ne h0, row_mem _ _, hh⟩
 obtain ⟨h, I, T, b, e1, n1, p1, t1⟩ := key
 obtain ⟨dot, F, U, b2, e2, n2, z2, p2, t2⟩ := tail_none t1
 obtain ⟨ex, m, sg, E, e3, x3, m3, n3, p3, z3, s3⟩ := exp_none t2
 refine ⟨⟨false, h, I, dot, F, ex, m, sg, E⟩, ⟨n1, p1, n2, z2, p2, x3, m3, n3, p3, z3, s3⟩, rfl, ?_⟩
 rw [e1, e2, e3]
 rfl
theorem word_none : ∀ {w l : List Int} {a : Nat}, wordR w l a = none → l = w
 | [], [], _, _ => rfl
 | [], _ :: _, _, h => by simp [wordR] at h
 | _ :: _, [], _, h => by simp [wordR] at h
 | x :: w, y :: l, a, h => by
  simp only [wordR] at h
  by_cases e : x = y
  ·rw [if_pos e] at h
   rw [e, word_none h]
  ·rw [if_neg e] at h; cases h
theorem scan_fig {l : List Int} (h : scanR l = none) : l = [45, 105, 110, 102] ∨ l = [105, 110, 102] ∨ l = [110, 97, 110] ∨ ∃ g : Fig, g.Ok ∧ l = g.txt := by
 unfold scanR at h
 split at h
 ·rename_i r
  have := word_none h
  rw [this]
  exact Or.inl rfl
 ·rename_i r _
  obtain ⟨g, hg, _, e⟩ := num_none h
  refine Or.inr (Or.inr (Or.inr ⟨{ g with neg := true }, ⟨hg.nI, hg.pI, hg.nF, hg.zF, hg.pF, hg.hx, hg.hm, hg.nE, hg.pE, hg.zE, hg.hs⟩, ?_⟩))
  rw [e]
  rfl
 ·rename_i r
  exact Or.inr (Or.inl (word_none h))
 ·rename_i r
  exact Or.inr (Or.inr (Or.inl (word_none h)))
 ·obtain ⟨g, hg, hn, e⟩ := num_none h
  refine Or.inr (Or.inr (Or.inr ⟨g, hg, ?_⟩))
  rw [e]
  unfold Fig.txt
  rw [hn]
  rfl
/-! ### what is gathered -/
def gth (h : Bool) : List Int → List Int → Option Nat → List Int × Option Nat × List Int
 | [], D, f => (D, f, [])
 | c :: r, D, f => if pD h c then gth h r (D ++ [c]) (f.map (· + 1)) else if c = 46 ∧ f = none then gth h r D (some 0) else (D, f, c :: r)
theorem gth_row (h : Bool) : ∀ (I T D : List Int) (f : Option Nat), (∀ c ∈ I, pD h c = true) → gth h (I ++ T) D f = gth h T (D ++ I) (f.map (· + I.length))
 | [], T, D, f, _ => by cases f <;> simp
 | c :: r, T, D, f, hp => by
  rw [List.cons_append, gth, if_pos (hp c List.mem_cons_self), gth_row h r T _ _ (fun x hx => hp x (List.mem_cons_of_mem _ hx))]
  cases f <;> simp [Nat.add_assoc, Nat.add_comm, Nat.add_left_comm]
theorem gth_stop {h : Bool} {T D : List Int} {f : Option Nat} (hT : T = [] ∨ ∃ c r, T = c :: r ∧ pD h c = false ∧ c ≠ 46) : gth h T D f = (D, f, T) := by
 rcases hT with rfl | ⟨c, r, rfl, h1, h2⟩
 ·rfl
 ·rw [gth, if_neg (by rw [h1]; decide), if_neg (fun e => h2 e.1)]
theorem Fig.Ok.U_stop {g : Fig} (hg : g.Ok) : g.U = [] ∨ ∃ c r, g.U = c :: r ∧ pD g.hex c = false ∧ c ≠ 46 := by
 unfold Fig.U
 by_cases he : g.ex = true
 ·rw [if_pos he]
  refine Or.inr ⟨g.m, _, rfl, ?_⟩
  rcases hg.hm with ⟨h1, h2⟩ | ⟨h1 | h1, h2⟩
  all_goals
   rw [h1, h2]
   exact ⟨by decide, by decide⟩
 ·rw [if_neg he]
  exact Or.inl rfl
def Fig.D (g : Fig) : List Int := g.I ++ g.F
theorem Fig.Ok.pDD {g : Fig} (hg : g.Ok) : ∀ c ∈ g.D, pD g.hex c = true := by
 intro c hc
 rcases List.mem_append.1 hc with h | h
 ·exact hg.pI c h
 ·exact hg.pF c h
theorem gth_fig {g : Fig} (hg : g.Ok) : gth g.hex (g.I ++ g.T) [] none = (g.D, if g.dot then some g.F.length else none, g.U) := by
 rw [gth_row _ _ _ _ _ hg.pI]
 unfold Fig.T
 by_cases hd : g.dot = true
 ·rw [if_pos hd, if_pos hd, gth, if_neg (by cases g.hex <;> decide), if_pos ⟨rfl, rfl⟩, gth_row _ _ _ _ _ hg.pF, gth_stop hg.U_stop]
  simp [Fig.D]
 ·rw [if_neg hd, if_neg hd, gth_stop hg.U_stop]
  simp [Fig.D, hg.zF (by simpa using hd)]
/-! ### exponents that are cut -/
def satE (mx : Nat) (l : List Int) (e : Nat) : Nat := l.foldl (fun e c => if e < mx then 10 * e + hxv c else e) e
theorem satE_cons (mx : Nat) (c : Int) (r : List Int) (e : Nat) : satE mx (c :: r) e = satE mx r (if e < mx then 10 * e + hxv c else e) := rfl
theorem hxv_9 {c : Int} (h : isD c = true) : hxv c ≤ 9 ∧ (hxv c : Int) = c - 48 := by
 have h2 := isD_iff.1 h
 unfold hxv
 rw [if_pos h]
 omega
theorem satE_lt (mx : Nat) (hmx : 1 ≤ mx) : ∀ (l : List Int) (e : Nat), (∀ c ∈ l, isD c = true) → e < 10 * mx → satE mx l e < 10 * mx
 | [], e, _, h => h
 | c :: r, e, hl, h => by
  rw [satE_cons]
  refine satE_lt mx hmx r _ (fun x hx => hl x (List.mem_cons_of_mem _ hx)) ?_
  have := (hxv_9 (hl c List.mem_cons_self)).1
  split <;> omega
theorem satE_two (a b : Nat) (hab : a ≤ b) : ∀ (l : List Int) (x y : Nat), (x = y ∨ (a ≤ x ∧ a ≤ y)) → (satE a l x = satE b l y ∨ (a ≤ satE a l x ∧ a ≤ satE b l y))
 | [], x, y, h => h
 | c :: r, x, y, h => by
  rw [satE_cons, satE_cons]
  refine satE_two a b hab r _ _ ?_
  rcases h with rfl | ⟨h1, h2⟩
  ·by_cases h : x < a
   ·rw [if_pos h, if_pos (by omega)]; exact Or.inl rfl
   ·rw [if_neg h]
    refine Or.inr ⟨by omega, ?_⟩
    split <;> omega
  ·rw [if_neg (by omega)]
   refine Or.inr ⟨h1, ?_⟩
   split <;> omega
def Fig.q (g : Fig) : Nat := if g.hex then 4 else 1
def Fig.B (g : Fig) : Nat := if g.hex then 2 else 10
def Fig.C (g : Fig) : Nat := if g.hex then 16 else 10
theorem Fig.CB (g : Fig) : g.C = g.B ^ g.q := by unfold Fig.C Fig.B Fig.q; cases g.hex <;> rfl
def Fig.M (g : Fig) : Nat := gat g.C g.D 0
def Fig.p (mx : Nat) (g : Fig) : Int := -((g.q * g.F.length : Nat) : Int) + (if g.sg = [45] then -(satE mx g.E 0 : Int) else (satE mx g.E 0 : Int))
theorem Fig.Ok.M_lt {g : Fig} (hg : g.Ok) : g.M < g.C ^ g.D.length := gat_lt (h := g.hex) rfl _ hg.pDD
end
section
set_option maxRecDepth 100000
open Go
theorem Fig.B2 (g : Fig) : 2 ≤ g.B := by unfold Fig.B; split <;> omega
theorem rd_high {F Pm INF K B M : Nat} {p : Int} (hB : 2 ≤ B) (hE : val F INF = 2 ^ K * 2 ^ Pm) (hM : M ≠ 0) (hp : (K : Int) ≤ p) : INF ≤ rdV F Pm B M p := by
 refine rdV_huge (by omega) hE ?_
 rw [show (-p).toNat = 0 by omega, Nat.pow_zero, Nat.mul_one]
 calc 2 ^ K ≤ 2 ^ p.toNat := Nat.pow_le_pow_right (by decide) (by omega)
  _ ≤ B ^ p.toNat := Nat.pow_le_pow_left hB _
  _ ≤ M * B ^ p.toNat := Nat.le_mul_of_pos_left _ (Nat.pos_of_ne_zero hM)
theorem rd_low {F Pm B M : Nat} {p : Int} (hB : 2 ≤ B) (hPm : Pm ≤ 1074) (hM : M < 2 ^ 256) (hp : p ≤ -1400) : rdV F Pm B M p = 0 := by
 refine rdV_tiny (by omega) ?_
 rw [show p.toNat = 0 by omega, Nat.pow_zero, Nat.mul_one]
 have h1 : M * 2 ^ Pm < 2 ^ 256 * 2 ^ Pm := Nat.mul_lt_mul_of_pos_right hM (Nat.pow_pos (by decide))
 have h2 : 2 ^ 256 * 2 ^ Pm = 2 ^ (256 + Pm) := (Nat.pow_add 2 256 Pm).symm
 have h3 : 2 * 2 ^ (256 + Pm) = 2 ^ (256 + Pm + 1) := by rw [Nat.pow_succ]; omega
 have h4 : (2 : Nat) ^ (256 + Pm + 1) ≤ 2 ^ (-p).toNat := Nat.pow_le_pow_right (by decide) (by omega)
 have h5 : 2 ^ (-p).toNat ≤ B ^ (-p).toNat := Nat.pow_le_pow_left hB _
 omega
theorem Fig.Ok.M_256 {g : Fig} (hg : g.Ok) (hl : g.D.length ≤ 64) : g.M < 2 ^ 256 := by
 have h := hg.M_lt
 have h1 : g.C ^ g.D.length ≤ 16 ^ g.D.length := Nat.pow_le_pow_left (by unfold Fig.C; split <;> omega) _
 have h2 : 16 ^ g.D.length ≤ 16 ^ 64 := Nat.pow_le_pow_right (by decide) hl
 have h3 : (16 : Nat) ^ 64 = 2 ^ 256 := by decide
 omega
theorem rd_cut {F Pm INF K : Nat} (hE : val F INF = 2 ^ K * 2 ^ Pm) (hK : K ≤ 1024) (hPm : Pm ≤ 1074) {g : Fig} (hg : g.Ok) (hl : g.D.length ≤ 64) : min (rdV F Pm g.B g.M (g.p 10000)) INF = min (rdV F Pm g.B g.M (g.p 1000000)) INF := by
 have hB := g.B2
 have hM := hg.M_256 hl
 have hfl : g.F.length ≤ 64 := by
  have : g.D.length = g.I.length + g.F.length := by simp [Fig.D]
  omega
 have hq : g.q * g.F.length ≤ 256 := by
  have : g.q ≤ 4 := by unfold Fig.q; split <;> omega
  calc g.q * g.F.length ≤ 4 * g.F.length := Nat.mul_le_mul_right _ this
   _ ≤ 256 := by omega
 by_cases h0 : g.M = 0
 ·rw [h0, rdV_zero _ _ _ _ (by omega), rdV_zero _ _ _ _ (by omega)]
 rcases satE_two 10000 1000000 (by decide) g.E 0 0 (Or.inl rfl) with h | ⟨h1, h2⟩
 ·unfold Fig.p
  rw [h]
 ·by_cases hs : g.sg = [45]
  ·have e1 : g.p 10000 ≤ -1400 := by unfold Fig.p; rw [if_pos hs]; omega
   have e2 : g.p 1000000 ≤ -1400 := by unfold Fig.p; rw [if_pos hs]; omega
   rw [rd_low hB hPm hM e1, rd_low hB hPm hM e2]
  ·have e1 : 1024 ≤ g.p 10000 := by unfold Fig.p; rw [if_neg hs]; omega
   have e2 : 1024 ≤ g.p 1000000 := by unfold Fig.p; rw [if_neg hs]; omega
   have r1 := rd_high (F := F) (Pm := Pm) (B := g.B) hB hE h0 (p := g.p 10000) (by omega)
   have r2 := rd_high (F := F) (Pm := Pm) (B := g.B) hB hE h0 (p := g.p 1000000) (by omega)
   omega
/-! ### what is kept -/
def Fig.mx (g : Fig) : Nat := if g.hex then 16 else 19
def Fig.d (g : Fig) : Nat := kM g.C g.mx g.D
def Fig.lost (g : Fig) : Nat := kN g.D - kK g.mx g.D
def Fig.e (g : Fig) : Int := g.p 10000 + ((g.q * g.lost : Nat) : Int)
def Fig.t (g : Fig) : Bool := kT g.mx g.D
theorem Fig.Ok.kept {g : Fig} (hg : g.Ok) : g.d * g.C ^ g.lost ≤ g.M ∧ g.M < (g.d + 1) * g.C ^ g.lost ∧ (g.t = false → g.M = g.d * g.C ^ g.lost) := k_val (h := g.hex) rfl hg.pDD
theorem Fig.Ok.nought {g : Fig} (hg : g.Ok) (h : g.d = 0) : g.M = 0 := k_nil (h := g.hex) rfl (by unfold Fig.mx; split <;> omega) hg.pDD h
theorem Fig.Ok.d_lt {g : Fig} (hg : g.Ok) : g.d < g.C ^ g.mx := by
 have h := k_lt (h := g.hex) (B := g.C) (mx := g.mx) rfl hg.pDD
 have h2 : g.C ^ kK g.mx g.D ≤ g.C ^ g.mx := Nat.pow_le_pow_right (by unfold Fig.C; split <;> omega) (by unfold kK; omega)
 exact Nat.lt_of_lt_of_le h h2
theorem Fig.Ok.lo {g : Fig} (hg : g.Ok) (F Pm : Nat) : rdV F Pm g.B g.d g.e ≤ rdV F Pm g.B g.M (g.p 10000) := by
 have hB := g.B2
 unfold Fig.e
 rw [← rdV_shift (by omega)]
 refine rdV_mono (by omega) ?_
 rw [Nat.pow_mul, ← g.CB]
 exact hg.kept.1
theorem Fig.Ok.hi {g : Fig} (hg : g.Ok) (F Pm : Nat) : rdV F Pm g.B g.M (g.p 10000) ≤ rdV F Pm g.B (g.d + 1) g.e := by
 have hB := g.B2
 unfold Fig.e
 rw [← rdV_shift (by omega)]
 refine rdV_mono (by omega) ?_
 rw [Nat.pow_mul, ← g.CB]
 exact Nat.le_of_lt hg.kept.2.1
theorem Fig.Ok.same {g : Fig} (hg : g.Ok) (F Pm : Nat) (ht : g.t = false) : rdV F Pm g.B g.M (g.p 10000) = rdV F Pm g.B g.d g.e := by
 have hB := g.B2
 unfold Fig.e
 rw [← rdV_shift (by omega), Nat.pow_mul, ← g.CB, ← hg.kept.2.2 ht]
theorem val_inf64 : val 52 9218868437227405312 = 2 ^ 1024 * 2 ^ 1074 := by kernel_rfl
theorem val_inf32 : val 23 2139095040 = 2 ^ 128 * 2 ^ 149 := by kernel_rfl
theorem rd10_high {F Pm INF K L M : Nat} {p : Int} (hE : val F INF = 2 ^ K * 2 ^ Pm) (hKL : 2 ^ K ≤ 10 ^ L) (hM : M ≠ 0) (hp : (L : Int) ≤ p) : INF ≤ rdV F Pm 10 M p := by
 refine rdV_huge (by omega) hE ?_
 rw [show (-p).toNat = 0 by omega, Nat.pow_zero, Nat.mul_one]
 calc 2 ^ K ≤ 10 ^ L := hKL
  _ ≤ 10 ^ p.toNat := Nat.pow_le_pow_right (by decide) (by omega)
  _ ≤ M * 10 ^ p.toNat := Nat.le_mul_of_pos_left _ (Nat.pos_of_ne_zero hM)
theorem rd10_low {F Pm L M T : Nat} {p : Int} (hM : M ≤ T) (hL : 2 * (T * 2 ^ Pm) < 10 ^ L) (hp : p ≤ -(L : Int)) : rdV F Pm 10 M p = 0 := by
 refine rdV_tiny (by omega) ?_
 rw [show p.toNat = 0 by omega, Nat.pow_zero, Nat.mul_one]
 have h1 : M * 2 ^ Pm ≤ T * 2 ^ Pm := Nat.mul_le_mul_right _ hM
 have h4 : (10 : Nat) ^ L ≤ 10 ^ (-p).toNat := Nat.pow_le_pow_right (by decide) (by omega)
 omega
theorem rd64_high {M : Nat} {p : Int} (hM : M ≠ 0) (hp : 310 < p) : 9218868437227405312 ≤ rdV 52 1074 10 M p := rd10_high (K := 1024) (L := 311) val_inf64 (Nat.le_of_ble_eq_true (by kernel_rfl)) hM (by omega)
theorem rd32_high {M : Nat} {p : Int} (hM : M ≠ 0) (hp : 40 < p) : 2139095040 ≤ rdV 23 149 10 M p := rd10_high (K := 128) (L := 41) val_inf32 (Nat.le_of_ble_eq_true (by kernel_rfl)) hM (by omega)
theorem rd64_low {M : Nat} {p : Int} (hM : M ≤ 18446744073709551616) (hp : p < -345) : rdV 52 1074 10 M p = 0 := rd10_low (T := 18446744073709551616) (L := 346) hM (Nat.le_of_ble_eq_true (by kernel_rfl)) (by omega)
theorem rd32_low {M : Nat} {p : Int} (hM : M ≤ 18446744073709551616) (hp : p < -70) : rdV 23 149 10 M p = 0 := rd10_low (T := 18446744073709551616) (L := 71) hM (Nat.le_of_ble_eq_true (by kernel_rfl)) (by omega)
end
section
set_option maxRecDepth 100000
open Go
def iS (s : Bool) (n : Nat) : Int := if s then -(n : Int) else n
theorem signed_pow (s : Bool) (m k : Nat) : Ieee.signed s m k = iS s (m * 2 ^ k) := by
 unfold Ieee.signed iS
 rw [Nat.shiftLeft_eq]
theorem iS_mul (s : Bool) (n k : Nat) : iS s (n * k) = iS s n * (k : Int) := by
 unfold iS
 cases s
 ·simp
 ·simp [Int.neg_mul]
theorem cmp_mul (x y k : Int) (hk : 0 < k) : compare (x * k) (y * k) = compare x y := by
 show compareOfLessAndEq _ _ = compareOfLessAndEq _ _
 unfold compareOfLessAndEq
 by_cases h1 : x < y
 ·rw [if_pos h1, if_pos (Int.mul_lt_mul_of_pos_right h1 hk)]
 ·by_cases h2 : x = y
  ·rw [h2]; simp
  ·have h3 : y < x := by omega
   have h4 := Int.mul_lt_mul_of_pos_right h3 hk
   rw [if_neg h1, if_neg h2, if_neg (by omega), if_neg (by omega)]
theorem cmp_lt' {x y : Int} : compare x y = .lt ↔ x < y := by
 show compareOfLessAndEq x y = .lt ↔ _
 unfold compareOfLessAndEq
 by_cases h1 : x < y
 ·simp [h1]
 ·by_cases h2 : x = y <;> simp [h1, h2]
theorem cmp_gt' {x y : Int} : compare x y = .gt ↔ y < x := by
 show compareOfLessAndEq x y = .gt ↔ _
 unfold compareOfLessAndEq
 by_cases h1 : x < y
 ·simp [h1]; omega
 ·by_cases h2 : x = y
  ·simp [h2]
  ·simp [h1, h2]; omega
theorem cmp_eq' {x y : Int} : compare x y = .eq ↔ x = y := by
 show compareOfLessAndEq x y = .eq ↔ _
 unfold compareOfLessAndEq
 by_cases h1 : x < y
 ·simp [h1]; omega
 ·by_cases h2 : x = y <;> simp [h1, h2]
theorem fm_order {f : Ieee.Format} {Pm : Nat} (h : Fm f Pm) (s t : Bool) (b c : Nat) (hb : b < f.infRung) (hc : c < f.infRung) : f.order (f.word s b) (f.word t c) = some (compare (iS s (val f.fractionBits b)) (iS t (val f.fractionBits c))) := by
 unfold Ieee.Format.order
 rw [fm_read h s b hb, fm_read h t c hc]
 simp only [Ieee.Datum.order]
 congr 1
 obtain ⟨base, hbase⟩ : ∃ base : Int, base = min ((pE f.fractionBits b : Int) - (Pm : Int)) ((pE f.fractionBits c : Int) - (Pm : Int)) := ⟨_, rfl⟩
 rw [← hbase, signed_pow, signed_pow, val_parts, val_parts]
 have e1 : pE f.fractionBits b = (((pE f.fractionBits b : Int) - (Pm : Int)) - base).toNat + (base + (Pm : Int)).toNat := by omega
 have e2 : pE f.fractionBits c = (((pE f.fractionBits c : Int) - (Pm : Int)) - base).toNat + (base + (Pm : Int)).toNat := by omega
 have g1 : pM f.fractionBits b * 2 ^ pE f.fractionBits b = pM f.fractionBits b * 2 ^ (((pE f.fractionBits b : Int) - (Pm : Int)) - base).toNat * 2 ^ (base + (Pm : Int)).toNat := by
  rw [Nat.mul_assoc, ← Nat.pow_add, ← e1]
 have g2 : pM f.fractionBits c * 2 ^ pE f.fractionBits c = pM f.fractionBits c * 2 ^ (((pE f.fractionBits c : Int) - (Pm : Int)) - base).toNat * 2 ^ (base + (Pm : Int)).toNat := by
  rw [Nat.mul_assoc, ← Nat.pow_add, ← e2]
 have : 0 < 2 ^ (base + (Pm : Int)).toNat := Nat.pow_pos (by decide)
 rw [g1, g2, iS_mul s _ (2 ^ (base + (Pm : Int)).toNat), iS_mul t _ (2 ^ (base + (Pm : Int)).toNat), cmp_mul _ _ _ (by omega)]
theorem fm_inf {f : Ieee.Format} {Pm : Nat} (h : Fm f Pm) (hi : f.binade ≤ f.infRung) (s : Bool) : f.read (f.word s f.infRung) = .infinity s := by
 have hw : f.word s f.infRung / f.signWeight % 2 = (if s then 1 else 0) ∧ f.word s f.infRung % f.signWeight = f.infRung := by
  have := h.sw
  unfold Ieee.Format.word
  have hp : 0 < f.signWeight := by omega
  cases s
  ·simp only [Bool.false_eq_true, if_false]
   exact ⟨by rw [Nat.div_eq_of_lt (by omega)], Nat.mod_eq_of_lt (by omega)⟩
  ·simp only [if_true]
   have h1 : (f.signWeight + f.infRung) / f.signWeight = 1 := by rw [Nat.add_div_left _ hp, Nat.div_eq_of_lt (by omega)]
   have h2 : (f.signWeight + f.infRung) % f.signWeight = f.infRung := by rw [Nat.add_mod_left, Nat.mod_eq_of_lt (by omega)]
   rw [h1, h2]
   exact ⟨rfl, rfl⟩
 unfold Ieee.Format.read
 simp only []
 rw [hw.2, hw.1]
 have hs : ((if s = true then 1 else 0) == 1) = s := by cases s <;> rfl
 rw [hs, if_neg (by omega), if_neg (by omega), if_pos rfl]
theorem fm_same {f : Ieee.Format} {Pm : Nat} (h : Fm f Pm) (hi : f.binade ≤ f.infRung) (s : Bool) (b c : Nat) (hb : b ≤ f.infRung) (hc : c ≤ f.infRung) : (f.order (f.word s b) (f.word s c) == some Ordering.eq) = decide (b = c) := by
 by_cases h1 : b < f.infRung
 ·by_cases h2 : c < f.infRung
  ·rw [fm_order h s s b c h1 h2]
   have key : compare (iS s (val f.fractionBits b)) (iS s (val f.fractionBits c)) = .eq ↔ b = c := by
    rw [cmp_eq']
    constructor
    ·intro e
     have e2 : val f.fractionBits b = val f.fractionBits c := by unfold iS at e; split at e <;> omega
     rcases Nat.lt_trichotomy b c with l | l | l
     ·have := val_lt f.fractionBits l; omega
     ·exact l
     ·have := val_lt f.fractionBits l; omega
    ·intro e; rw [e]
   by_cases e : b = c
   ·rw [key.2 e]; simp [e]
   ·have : compare (iS s (val f.fractionBits b)) (iS s (val f.fractionBits c)) ≠ .eq := fun x => e (key.1 x)
    simp [this, e]
  ·obtain rfl : c = f.infRung := by omega
   unfold Ieee.Format.order
   rw [fm_inf h hi, fm_read h s b h1]
   have : b ≠ f.infRung := by omega
   simp only [Ieee.Datum.order, this]
   cases s <;> rfl
 ·obtain rfl : b = f.infRung := by omega
  by_cases h2 : c < f.infRung
  ·unfold Ieee.Format.order
   rw [fm_inf h hi, fm_read h s c h2]
   have : ¬ f.infRung = c := by omega
   simp only [Ieee.Datum.order, this]
   cases s <;> rfl
  ·obtain rfl : c = f.infRung := by omega
   unfold Ieee.Format.order
   rw [fm_inf h hi]
   simp only [Ieee.Datum.order]
   cases s <;> simp <;> rfl
theorem fm_gt {f : Ieee.Format} {Pm : Nat} (h : Fm f Pm) (s : Bool) (b c : Nat) (hb : b < f.infRung) (hc : c < f.infRung) (hp : 0 < val f.fractionBits c) : (f.order (f.word s b) (f.word false c) == some Ordering.gt) = (!s && decide (val f.fractionBits c < val f.fractionBits b)) := by
 rw [fm_order h s false b c hb hc]
 have key : compare (iS s (val f.fractionBits b)) (iS false (val f.fractionBits c)) = .gt ↔ (s = false ∧ val f.fractionBits c < val f.fractionBits b) := by
  rw [cmp_gt']
  cases s <;> simp [iS] <;> omega
 cases hx : compare (iS s (val f.fractionBits b)) (iS false (val f.fractionBits c)) with
 | gt =>
  have := key.1 hx
  rw [this.1]; simp [this.2]
 | lt =>
  have : ¬ (s = false ∧ val f.fractionBits c < val f.fractionBits b) := fun e => by rw [key.2 e] at hx; cases hx
  cases s <;> simp at this ⊢ <;> first | rfl | (simp [this]; done) | omega
 | eq =>
  have : ¬ (s = false ∧ val f.fractionBits c < val f.fractionBits b) := fun e => by rw [key.2 e] at hx; cases hx
  cases s <;> simp at this ⊢ <;> first | rfl | (simp [this]; done) | omega
theorem fm_lt {f : Ieee.Format} {Pm : Nat} (h : Fm f Pm) (s : Bool) (b c : Nat) (hb : b < f.infRung) (hc : c < f.infRung) (hp : 0 < val f.fractionBits c) : (f.order (f.word s b) (f.word true c) == some Ordering.lt) = (s && decide (val f.fractionBits c < val f.fractionBits b)) := by
 rw [fm_order h s true b c hb hc]
 have key : compare (iS s (val f.fractionBits b)) (iS true (val f.fractionBits c)) = .lt ↔ (s = true ∧ val f.fractionBits c < val f.fractionBits b) := by
  rw [cmp_lt']
  cases s <;> simp [iS] <;> omega
 cases hx : compare (iS s (val f.fractionBits b)) (iS true (val f.fractionBits c)) with
 | lt =>
  have := key.1 hx
  rw [this.1]; simp [this.2]
 | gt =>
  have : ¬ (s = true ∧ val f.fractionBits c < val f.fractionBits b) := fun e => by rw [key.2 e] at hx; cases hx
  cases s <;> simp at this ⊢ <;> first | rfl | (simp [this]; done) | omega
 | eq =>
  have : ¬ (s = true ∧ val f.fractionBits c < val f.fractionBits b) := fun e => by rw [key.2 e] at hx; cases hx
  cases s <;> simp at this ⊢ <;> first | rfl | (simp [this]; done) | omega
theorem rep_nr (F Pm d : Nat) (h0 : d ≠ 0) (h1 : d < 2 * 2 ^ F) : val F (nr F (d * 2 ^ Pm) 1) = d * 2 ^ Pm := by
 obtain ⟨b, hb⟩ := rep F d Pm (by omega) h1
 have := nr_val F b 1 (by omega)
 rw [← hb]
 rw [Nat.mul_one] at this
 rw [this]
theorem ex_int {f : Ieee.Format} {Pm K : Nat} (h : Fm f Pm) (hK : val f.fractionBits f.infRung = 2 ^ K * 2 ^ Pm) (s : Bool) (d : Nat) (h0 : d ≠ 0) (h1 : d < 2 * 2 ^ f.fractionBits) (h2 : d < 2 ^ K) :
  nr f.fractionBits (d * 2 ^ Pm) 1 < f.infRung ∧ nr f.fractionBits (d * 2 ^ Pm) 1 ≠ 0 ∧ f.nearest s d 0 = f.word s (nr f.fractionBits (d * 2 ^ Pm) 1) := by
 have hv := rep_nr f.fractionBits Pm d h0 h1
 have hn := fm_near h s d 0 h0 (d * 2 ^ Pm) 1 (by omega) (by rw [show (-0 - (Pm : Int)).toNat = 0 by omega, show (0 + (Pm : Int)).toNat = Pm by omega, Nat.pow_zero])
 generalize nr f.fractionBits (d * 2 ^ Pm) 1 = b at *
 have hp : 0 < 2 ^ Pm := Nat.pow_pos (by decide)
 have lt : b < f.infRung := by
  apply Classical.byContradiction
  intro hc
  have := val_le f.fractionBits (b := f.infRung) (c := b) (by omega)
  rw [hK, hv] at this
  have := Nat.le_of_mul_le_mul_right this hp
  omega
 refine ⟨lt, ?_, ?_⟩
 ·intro e
  rw [e, val_zero] at hv
  have := Nat.mul_pos (Nat.pos_of_ne_zero h0) hp
  omega
 ·rw [hn, Nat.min_eq_left (Nat.le_of_lt lt)]
theorem ex_mul {f : Ieee.Format} {Pm : Nat} (h : Fm f Pm) (s : Bool) (x y a c : Nat) (hx : val f.fractionBits x = a * 2 ^ Pm) (hy : val f.fractionBits y = c * 2 ^ Pm) (bx : x < f.infRung) (by' : y < f.infRung) (ha : a ≠ 0) (hc : c ≠ 0) :
  f.mul (f.word s x) (f.word false y) = some (f.word s (min (nr f.fractionBits (a * c * 2 ^ Pm) 1) f.infRung)) := by
 have hp : 0 < 2 ^ Pm := Nat.pow_pos (by decide)
 have hx0 : x ≠ 0 := by
  intro e
  rw [e, val_zero] at hx
  have := Nat.mul_pos (Nat.pos_of_ne_zero ha) hp
  omega
 have hy0 : y ≠ 0 := by
  intro e
  rw [e, val_zero] at hy
  have := Nat.mul_pos (Nat.pos_of_ne_zero hc) hp
  omega
 rw [fm_mul h s false x y bx by' hx0 hy0, hx, hy, Bool.xor_false]
 rw [nr_rat (F := f.fractionBits) (n2 := a * c * 2 ^ Pm) (d2 := 1) hp (by omega) (by rw [Nat.mul_one]; simp only [Nat.mul_assoc, Nat.mul_left_comm, Nat.mul_comm])]
theorem ex_div {f : Ieee.Format} {Pm : Nat} (h : Fm f Pm) (s : Bool) (x y a c : Nat) (hx : val f.fractionBits x = a * 2 ^ Pm) (hy : val f.fractionBits y = c * 2 ^ Pm) (bx : x < f.infRung) (by' : y < f.infRung) (ha : a ≠ 0) (hc : c ≠ 0) :
  f.div (f.word s x) (f.word false y) = some (f.word s (min (nr f.fractionBits (a * 2 ^ Pm) c) f.infRung)) := by
 have hp : 0 < 2 ^ Pm := Nat.pow_pos (by decide)
 have hx0 : x ≠ 0 := by
  intro e
  rw [e, val_zero] at hx
  have := Nat.mul_pos (Nat.pos_of_ne_zero ha) hp
  omega
 have hy0 : y ≠ 0 := by
  intro e
  rw [e, val_zero] at hy
  have := Nat.mul_pos (Nat.pos_of_ne_zero hc) hp
  omega
 rw [fm_div h s false x y bx by' hx0 hy0, hx, hy, Bool.xor_false]
 rw [nr_rat (F := f.fractionBits) (n2 := a * 2 ^ Pm) (d2 := c) (Nat.mul_pos (Nat.pos_of_ne_zero hc) hp) (Nat.pos_of_ne_zero hc) (by simp only [Nat.mul_assoc, Nat.mul_left_comm, Nat.mul_comm])]
theorem ex_test {F Pm K INF T d : Nat} (hK : val F INF = 2 ^ K * 2 ^ Pm) (hT : T + 1 < 2 * 2 ^ F) (hT2 : T + 1 < 2 ^ K) (h : val F (min (nr F (d * 2 ^ Pm) 1) INF) ≤ T * 2 ^ Pm) : d ≤ T := by
 apply Classical.byContradiction
 intro hc
 have hv := rep_nr F Pm (T + 1) (by omega) hT
 have hp : 0 < 2 ^ Pm := Nat.pow_pos (by decide)
 have hm : nr F ((T + 1) * 2 ^ Pm) 1 ≤ nr F (d * 2 ^ Pm) 1 := nr_mono (by omega) (Nat.mul_le_mul_right _ (by omega))
 generalize nr F ((T + 1) * 2 ^ Pm) 1 = b at *
 have lt : b < INF := by
  apply Classical.byContradiction
  intro hc
  have := val_le F (b := INF) (c := b) (by omega)
  rw [hK, hv] at this
  have := Nat.le_of_mul_le_mul_right this hp
  omega
 have h2 := val_le F (b := b) (c := min (nr F (d * 2 ^ Pm) 1) INF) (by omega)
 rw [hv] at h2
 have h3 := Nat.le_of_mul_le_mul_right (Nat.le_trans h2 h) hp
 omega
theorem rdV_up (F Pm M k : Nat) : rdV F Pm 10 M (k : Int) = nr F (M * 10 ^ k * 2 ^ Pm) 1 := by
 unfold rdV
 rw [show ((k : Int)).toNat = k by omega, show (-(k : Int)).toNat = 0 by omega]
theorem rdV_dn (F Pm M k : Nat) : rdV F Pm 10 M (-(k : Int)) = nr F (M * 2 ^ Pm) (10 ^ k) := by
 unfold rdV
 rw [show (-(k : Int)).toNat = 0 by omega, show (-(-(k : Int))).toNat = k by omega, Nat.pow_zero, Nat.mul_one]
theorem fm64 : Fm Ieee.double 1074 := ⟨by decide, by kernel_rfl, Nat.le_of_ble_eq_true (by kernel_rfl)⟩
theorem fm32 : Fm Ieee.single 149 := ⟨by decide, by kernel_rfl, Nat.le_of_ble_eq_true (by kernel_rfl)⟩
theorem inf64 : Ieee.double.infRung = 9218868437227405312 := by kernel_rfl
theorem inf32 : Ieee.single.infRung = 2139095040 := by kernel_rfl
theorem word64 (s : Bool) (b : Nat) : Ieee.double.word s b = (if s then 9223372036854775808 else 0) + b := by
 cases s
 ·exact (Nat.zero_add b).symm
 ·exact congrArg (· + b) (show Ieee.double.signWeight = 9223372036854775808 by kernel_rfl)
theorem word32 (s : Bool) (b : Nat) : Ieee.single.word s b = (if s then 2147483648 else 0) + b := by
 cases s
 ·exact (Nat.zero_add b).symm
 ·exact congrArg (· + b) (show Ieee.single.signWeight = 2147483648 by kernel_rfl)
theorem xor_top (b k : Nat) (h : b < 2 ^ k) : b ^^^ 2 ^ k = 2 ^ k + b := by
 have d := Nat.xor_div_two_pow (a := b) (b := 2 ^ k) (n := k)
 have r := Nat.xor_mod_two_pow (a := b) (b := 2 ^ k) (n := k)
 rw [Nat.div_eq_of_lt h, Nat.div_self (Nat.pow_pos (by decide)), Nat.zero_xor] at d
 rw [Nat.mod_self, Nat.xor_zero, Nat.mod_eq_of_lt h] at r
 have e := Nat.div_add_mod (b ^^^ 2 ^ k) (2 ^ k)
 rw [d, r] at e
 omega
def pw64 : List Nat := [4607182418800017408, 4621819117588971520, 4636737291354636288, 4652007308841189376, 4666723172467343360, 4681608360884174848, 4696837146684686336, 4711630319722168320, 4726483295884279808, 4741671816366391296, 4756540486875873280, 4771362005757984768, 4786511204640096256, 4801453603149578240, 4816244402031689728, 4831355200913801216, 4846369599423283200, 4861130398305394688, 4876203697187506176, 4891288408196988160, 4906019910204099648, 4921056587992461136, 4936209963552724370]
def pw32 : List Nat := [1065353216, 1092616192, 1120403456, 1148846080, 1176256512, 1203982336, 1232348160, 1259902592, 1287568416, 1315859240, 1343554297]
def pwOk (F Pm INF : Nat) : List Nat → Nat → Bool
 | [], _ => true
 | y :: r, c => decide (val F y = c * 2 ^ Pm) && decide (y < INF) && pwOk F Pm INF r (c * 10)
theorem pwOk_at {F Pm INF : Nat} : ∀ {l : List Nat} {c k y : Nat}, pwOk F Pm INF l c = true → l[k]? = some y → val F y = c * 10 ^ k * 2 ^ Pm ∧ y < INF
 | [], _, _, _, _, h => by simp at h
 | z :: r, c, 0, y, hp, h => by
  simp only [pwOk, Bool.and_eq_true, decide_eq_true_eq] at hp
  simp at h
  subst h
  exact ⟨by rw [hp.1.1]; simp, hp.1.2⟩
 | z :: r, c, k + 1, y, hp, h => by
  simp only [pwOk, Bool.and_eq_true, decide_eq_true_eq] at hp
  have := pwOk_at (k := k) (y := y) hp.2 (by simpa using h)
  refine ⟨?_, this.2⟩
  rw [this.1, Nat.pow_succ]
  simp only [Nat.mul_assoc, Nat.mul_left_comm, Nat.mul_comm]
theorem pw64_ok : pwOk 52 1074 9218868437227405312 pw64 1 = true := by kernel_rfl
theorem pw32_ok : pwOk 23 149 2139095040 pw32 1 = true := by kernel_rfl
theorem pw64_at {k y : Nat} (h : pw64[k]? = some y) : val 52 y = 10 ^ k * 2 ^ 1074 ∧ y < 9218868437227405312 := by
 have := pwOk_at pw64_ok h
 rwa [Nat.one_mul] at this
theorem pw32_at {k y : Nat} (h : pw32[k]? = some y) : val 23 y = 10 ^ k * 2 ^ 149 ∧ y < 2139095040 := by
 have := pwOk_at pw32_ok h
 rwa [Nat.one_mul] at this
end
section
set_option maxRecDepth 100000
open Go
def natL : List Int → Nat
 | [] => 0
 | x :: r => x.toNat + 4294967296 * natL r
def Lb (l : List Int) : Prop := ∀ x ∈ l, 0 ≤ x ∧ x < 4294967296
theorem natL_cons (x : Int) (r : List Int) : natL (x :: r) = x.toNat + 4294967296 * natL r := rfl
theorem natL_app : ∀ (a b : List Int), natL (a ++ b) = natL a + 4294967296 ^ a.length * natL b
 | [], b => by simp [natL]
 | x :: r, b => by
  rw [List.cons_append, natL_cons, natL_cons, natL_app r b, List.length_cons, Nat.pow_succ, Nat.mul_add]
  have : 4294967296 * (4294967296 ^ r.length * natL b) = 4294967296 ^ r.length * 4294967296 * natL b := by simp only [Nat.mul_assoc, Nat.mul_left_comm, Nat.mul_comm]
  omega
theorem natL_snoc (a : List Int) (x : Int) : natL (a ++ [x]) = natL a + 4294967296 ^ a.length * x.toNat := by
 rw [natL_app]
 simp [natL]
theorem Lb.cons {x : Int} {r : List Int} (h : Lb (x :: r)) : (0 ≤ x ∧ x < 4294967296) ∧ Lb r := ⟨h x List.mem_cons_self, fun y hy => h y (List.mem_cons_of_mem _ hy)⟩
theorem Lb.snoc {x : Int} {r : List Int} (h : Lb r) (hx : 0 ≤ x ∧ x < 4294967296) : Lb (r ++ [x]) := by
 intro y hy
 rcases List.mem_append.1 hy with h1 | h1
 ·exact h y h1
 ·rw [List.mem_singleton.1 h1]; exact hx
theorem Lb.take {l : List Int} (h : Lb l) (k : Nat) : Lb (l.take k) := fun x hx => h x (List.mem_of_mem_take hx)
theorem Lb.drop {l : List Int} (h : Lb l) (k : Nat) : Lb (l.drop k) := fun x hx => h x (List.mem_of_mem_drop hx)
theorem natL_lt : ∀ {l : List Int}, Lb l → natL l < 4294967296 ^ l.length
 | [], _ => by simp [natL]
 | x :: r, h => by
  have h1 := natL_lt h.cons.2
  have h2 := h.cons.1
  rw [natL_cons, List.length_cons, Nat.pow_succ]
  omega
theorem natL_zeros : ∀ n, natL (List.replicate n 0) = 0
 | 0 => rfl
 | n + 1 => by
  rw [List.replicate_succ, natL_cons, natL_zeros n]
  rfl
def limbs (n : Nat) : List Int := if h : n = 0 then [] else ((n % 4294967296 : Nat) : Int) :: limbs (n / 4294967296)
termination_by n
decreasing_by omega
theorem limbs_zero : limbs 0 = [] := by rw [limbs]; simp
theorem limbs_pos {n : Nat} (h : n ≠ 0) : limbs n = ((n % 4294967296 : Nat) : Int) :: limbs (n / 4294967296) := by rw [limbs]; simp [h]
theorem natL_limbs : ∀ n, natL (limbs n) = n := by
 intro n
 induction n using Nat.strongRecOn with
 | ind n ih =>
  by_cases h : n = 0
  ·rw [h, limbs_zero]; rfl
  ·rw [limbs_pos h, natL_cons, ih _ (by omega)]
   omega
theorem limbs_Lb : ∀ n, Lb (limbs n) := by
 intro n
 induction n using Nat.strongRecOn with
 | ind n ih =>
  by_cases h : n = 0
  ·rw [h, limbs_zero]; intro x hx; cases hx
  ·rw [limbs_pos h]
   intro x hx
   rcases List.mem_cons.1 hx with rfl | hx
   ·omega
   ·exact ih _ (by omega) x hx
theorem limbs_nil {n : Nat} : limbs n = [] ↔ n = 0 := by
 constructor
 ·intro h
  apply Classical.byContradiction
  intro hn
  rw [limbs_pos hn] at h
  cases h
 ·rintro rfl; exact limbs_zero
theorem limbs_natL : ∀ {l : List Int}, Lb l → (∀ x, l.getLast? = some x → x ≠ 0) → limbs (natL l) = l
 | [], _, _ => limbs_zero
 | [x], h, hn => by
  have h1 := h.cons.1
  have h2 : x ≠ 0 := hn x rfl
  have e : natL [x] = x.toNat := by simp [natL]
  rw [e, limbs_pos (by omega), show x.toNat / 4294967296 = 0 by omega, limbs_zero, show ((x.toNat % 4294967296 : Nat) : Int) = x by omega]
 | x :: y :: r, h, hn => by
  have ih := limbs_natL (l := y :: r) h.cons.2 (fun z hz => hn z (by rw [List.getLast?_cons_cons]; exact hz))
  have h1 := h.cons.1
  have h0 : natL (y :: r) ≠ 0 := by
   intro e
   rw [e, limbs_zero] at ih
   cases ih
  rw [natL_cons, limbs_pos (by omega), show (x.toNat + 4294967296 * natL (y :: r)) / 4294967296 = natL (y :: r) by omega, ih, show (((x.toNat + 4294967296 * natL (y :: r)) % 4294967296 : Nat) : Int) = x by omega]
theorem limbs_len : ∀ {k n : Nat}, n < 4294967296 ^ k → (limbs n).length ≤ k
 | 0, n, h => by
  have : n = 0 := by simp at h; omega
  rw [this, limbs_zero]
  exact Nat.le_refl _
 | k + 1, n, h => by
  by_cases h0 : n = 0
  ·rw [h0, limbs_zero]; exact Nat.zero_le _
  ·rw [limbs_pos h0, List.length_cons]
   have := limbs_len (k := k) (n := n / 4294967296) (by rw [Nat.pow_succ] at h; omega)
   omega
theorem limbs_low : ∀ {k n : Nat}, k < (limbs n).length → 4294967296 ^ k ≤ n
 | k, n, h => by
  apply Classical.byContradiction
  intro hc
  have := limbs_len (k := k) (n := n) (by omega)
  omega
theorem limbs_top (n : Nat) : ∀ x, (limbs n).getLast? = some x → x ≠ 0 := by
 induction n using Nat.strongRecOn with
 | ind n ih =>
  by_cases h : n = 0
  ·rw [h, limbs_zero]; intro x hx; cases hx
  ·rw [limbs_pos h]
   intro x hx
   by_cases h2 : n / 4294967296 = 0
   ·rw [h2, limbs_zero] at hx
    simp at hx
    omega
   ·obtain ⟨y, r, e⟩ : ∃ y r, limbs (n / 4294967296) = y :: r := by rw [limbs_pos h2]; exact ⟨_, _, rfl⟩
    rw [e, List.getLast?_cons_cons, ← e] at hx
    exact ih _ (by omega) x hx
theorem natL_split (l : List Int) (k : Nat) (hk : k ≤ l.length) : natL l = natL (l.take k) + 4294967296 ^ k * natL (l.drop k) := by
 have h := natL_app (l.take k) (l.drop k)
 rw [List.take_append_drop, List.length_take, Nat.min_eq_left hk] at h
 exact h
theorem limbs_cut {l : List Int} {k : Nat} (h : Lb l) (hk : k ≤ l.length) (hz : ∀ i, k ≤ i → (hi : i < l.length) → l[i] = 0) (ht : k = 0 ∨ ∃ hk : k - 1 < l.length, l[k - 1] ≠ 0) : l.take k = limbs (natL l) := by
 have hd : l.drop k = List.replicate (l.length - k) 0 := by
  apply List.ext_getElem
  ·simp
  ·intro i h1 h2
   simp at h1
   simp only [List.getElem_drop, List.getElem_replicate]
   exact hz _ (by omega) (by omega)
 rw [natL_split l k hk, hd, natL_zeros, Nat.mul_zero, Nat.add_zero]
 symm
 refine limbs_natL (h.take k) ?_
 intro x hx
 rcases ht with rfl | ⟨h1, h2⟩
 ·simp at hx
 ·have hk0 : k ≠ 0 ∨ k = 0 := by omega
  by_cases k0 : k = 0
  ·subst k0; simp at hx
  ·rw [List.getLast?_eq_getElem?, List.length_take, Nat.min_eq_left hk, List.getElem?_take, if_pos (by omega), List.getElem?_eq_getElem h1] at hx
   injection hx with hx
   rw [← hx]
   exact h2
theorem natL_less {a b : List Int} {k : Nat} (ha : Lb a) (hb : Lb b) (h1 : k < a.length) (h2 : k < b.length) (hd : a.drop (k + 1) = b.drop (k + 1)) (hlt : a[k] < b[k]) : natL a < natL b := by
 rw [natL_split a k (by omega), natL_split b k (by omega), List.drop_eq_getElem_cons h1, List.drop_eq_getElem_cons h2, natL_cons, natL_cons, hd]
 have t1 := natL_lt (ha.take k)
 rw [List.length_take, Nat.min_eq_left (by omega)] at t1
 have b1 := ha a[k] (List.getElem_mem h1)
 have b2 := hb b[k] (List.getElem_mem h2)
 have e : a[k].toNat + 4294967296 * natL (b.drop (k + 1)) + 1 ≤ b[k].toNat + 4294967296 * natL (b.drop (k + 1)) := by omega
 have e2 := Nat.mul_le_mul_left (4294967296 ^ k) e
 rw [Nat.mul_add, Nat.mul_one] at e2
 omega
theorem limbs_shorter {m n : Nat} (h : (limbs m).length < (limbs n).length) : m < n := by
 have h1 := natL_lt (limbs_Lb m)
 rw [natL_limbs] at h1
 have h2 := limbs_low h
 omega
end
end Go.Proofs.YtlgneiaenanfaaaGreatDoor
