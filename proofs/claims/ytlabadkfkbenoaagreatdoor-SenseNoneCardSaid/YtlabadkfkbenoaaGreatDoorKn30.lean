/- Walks and plain laws, merged: EvlL IntI. No condition. -/
import Derived.Test.YtlabadkfkbenoaaGreatDoorKn29
import Derived.Test.YtlabadkfkbenoaaGreatDoorKn28
namespace Go.Proofs.YtlabadkfkbenoaaGreatDoor
open Go.RowKit
set_option linter.unusedVariables false
set_option linter.unusedSimpArgs false
set_option maxRecDepth 100000
section
/-! ### what makes sense -/
structure Cf.Ok (cf : Cf) : Prop where
 call : ∀ s g, getM s cf.cs = some g → (g.host < 0 → ∃ f, cf.fs[g.fn.toNat]? = some f ∧ f.params = g.params) ∧ (¬ g.host < 0 → ∃ h, cf.hs[g.host.toNat]? = some h)
 fn : ∀ f ∈ cf.fs, okS f.body = true ∧ ∃ sc c, addPars cf.vs cf.cs f.params [] = .ok sc ∧ chS cf.vs cf.cs f.type f.body [sc] [] 0 = .ok c
/-- an expression that has a type -/
structure XT (cf : Cf) (ss : List Scope) (h : EH) (k : Exs) (t : Int) : Prop where
 ok : okH h k.len = true
 kids : okE k = true
 ty : tyX cf.vs cf.cs ss h k = .ok t
theorem okE_at : ∀ {l : Exs}, okE l = true → ∀ (i : Nat) (a : EH × Exs), l.toL[i]? = some a → okH a.1 a.2.len = true ∧ okE a.2 = true
 | .nil, _, i, a, h => by simp [Exs.toL] at h
 | .cons h k r, hk, i, a, ha => by
  simp only [okE, Bool.and_eq_true] at hk
  cases i with
  | zero =>
   simp only [Exs.toL, List.getElem?_cons_zero, Option.some.injEq] at ha
   subst ha
   exact ⟨hk.1.2, hk.1.1⟩
  | succ i =>
   simp only [Exs.toL, List.getElem?_cons_succ] at ha
   exact okE_at hk.2 i a ha
theorem Exs.sz_at : ∀ {l : Exs} (i : Nat) (a : EH × Exs), l.toL[i]? = some a → a.2.sz + 1 ≤ l.sz
 | .nil, i, a, h => by simp [Exs.toL] at h
 | .cons h k r, i, a, ha => by
  simp only [Exs.sz]
  cases i with
  | zero =>
   simp only [Exs.toL, List.getElem?_cons_zero, Option.some.injEq] at ha
   subst ha
   show k.sz + 1 ≤ _
   omega
  | succ i =>
   simp only [Exs.toL, List.getElem?_cons_succ] at ha
   have := Exs.sz_at i a ha
   omega
theorem tyE_xt {cf : Cf} {ss : List Scope} {l : Exs} {ks : List Int} (ho : okE l = true) (h : tyE cf.vs cf.cs ss l = .ok ks) (i : Nat) (a : EH × Exs) (ha : l.toL[i]? = some a) : ∃ t, XT cf ss a.1 a.2 t ∧ ks[i]? = some t := by
 obtain ⟨t, h1, h2⟩ := (tyE_get h).2 i a ha
 exact ⟨t, ⟨(okE_at ho i a ha).1, (okE_at ho i a ha).2, h1⟩, h2⟩
theorem XT.kinds {cf : Cf} {ss : List Scope} {h : EH} {k : Exs} {t : Int} (hx : XT cf ss h k t) : ∃ ks, tyE cf.vs cf.cs ss k = .ok ks ∧ tyH cf.vs cf.cs ss h ks = .ok t := by
 have := hx.ty
 unfold tyX at this
 cases hk : tyE cf.vs cf.cs ss k with
 | error e => rw [hk] at this; cases this
 | ok ks => rw [hk] at this; exact ⟨ks, rfl, this⟩
theorem XT.kid {cf : Cf} {ss : List Scope} {h : EH} {k : Exs} {t : Int} (hx : XT cf ss h k t) (i : Nat) (a : EH × Exs) (ha : k.toL[i]? = some a) : ∃ t', XT cf ss a.1 a.2 t' := by
 obtain ⟨ks, h1, -⟩ := hx.kinds
 obtain ⟨t', h2, -⟩ := tyE_xt hx.kids h1 i a ha
 exact ⟨t', h2⟩
/-- what an expression of a kind has -/
theorem okH_n {h : EH} {n : Nat} (hk : okH h n = true) : (h.kind = 1 ∨ h.kind = 2 ∨ h.kind = 3 ∨ h.kind = 4 ∨ h.kind = 5 ∨ h.kind = 6 ∨ h.kind = 7 ∨ h.kind = 8) ∧ (h.kind = 4 → n = 1) ∧ (h.kind = 6 → n = 1) ∧ (h.kind = 7 → n = 2) ∧ (h.kind = 8 → n = 1) ∧ (h.kind = 5 → n ≤ 15) := by
 obtain ⟨a0, a1, a2, a3, a4, a5⟩ := h
 simp only []
 by_cases h1 : a1 = 1
 ·subst h1; simp
 by_cases h2 : a1 = 2
 ·subst h2; simp
 by_cases h3 : a1 = 3
 ·subst h3; simp
 by_cases h4 : a1 = 4
 ·subst h4
  rw [okH_4] at hk
  simp only [Bool.and_eq_true, beq_iff_eq] at hk
  have : n = 1 := by omega
  simp [this]
 by_cases h5 : a1 = 5
 ·subst h5
  rw [okH_5] at hk
  simp only [Bool.and_eq_true, decide_eq_true_eq] at hk
  have : n ≤ 15 := by omega
  simp [this]
 by_cases h6 : a1 = 6
 ·subst h6
  rw [okH_6] at hk
  simp only [Bool.and_eq_true] at hk
  have := bareB_n hk.1
  simp [this]
 by_cases h7 : a1 = 7
 ·subst h7
  rw [okH_7] at hk
  simp only [Bool.and_eq_true] at hk
  have := bareB_n hk.1
  simp [this]
 by_cases h8 : a1 = 8
 ·subst h8
  rw [okH_8] at hk
  simp only [Bool.and_eq_true] at hk
  have := bareB_n hk.1
  simp [this]
 ·rw [okH_0 a0 a1 a2 a3 a4 a5 n ⟨h1, h2, h3, h4, h5, h6, h7, h8⟩] at hk
  cases hk
theorem Exs.toL_get {l : Exs} {i : Nat} (h : i < l.len) : ∃ a, l.toL[i]? = some a := ⟨l.toL[i]'(by rw [Exs.toL_len]; exact h), List.getElem?_eq_getElem _⟩
theorem callT_ok {cs : CSg} {s : ByteArray} {ks : List Int} {t : Int} (h : callT cs s ks = .ok t) : ∃ g, getM s cs = some g ∧ g.params.length = ks.length ∧ g.type = t := by
 unfold callT at h
 split at h
 ·cases h
 ·rename_i g hg
  refine ⟨g, hg, ?_⟩
  repeat' split at h
  all_goals (first | (cases h; done) | skip)
  all_goals (cases h)
  all_goals (simp_all)
theorem XT.call {cf : Cf} {ss : List Scope} {h : EH} {k : Exs} {t : Int} (hx : XT cf ss h k t) (h5 : h.kind = 5) : ∃ g, getM h.name cf.cs = some g ∧ g.params.length = k.len ∧ g.type = t := by
 obtain ⟨ks, h1, h2⟩ := hx.kinds
 have h3 : tyH cf.vs cf.cs ss h ks = callT cf.cs h.name ks := by
  unfold tyH
  rw [h5]
  rfl
 rw [h3] at h2
 obtain ⟨g, q1, q2, q3⟩ := callT_ok h2
 refine ⟨g, q1, ?_, q3⟩
 rw [q2, (tyE_get h1).1, Exs.toL_len]
/-- what a statement that makes sense has -/
theorem stF_ok {vs : VS} {cs : CSg} {ret : Int} {h : SH} {x : Exs} {rb re rw : Except Int Unit} {ss : List Scope} {c c' : Scope} {lp : Nat} (hs : stF vs cs ret h x rb re rw ss c lp = .ok c') :
  ∃ ts, tyE vs cs (ss ++ [c]) x = .ok ts ∧ (h.kind = 1 → c' = putM h.name h.type c) ∧ (h.kind ≠ 1 → c' = c) ∧ (h.kind = 2 → ∃ t, varT vs (ss ++ [c]) h.name = .ok t) ∧ (h.kind = 3 → ∃ t, arrT vs (ss ++ [c]) h.name = .ok t) ∧
   (h.kind = 4 → rb = .ok () ∧ re = .ok ()) ∧ (h.kind = 5 → rw = .ok ()) := by
 unfold stF at hs
 cases hx : tyE vs cs (ss ++ [c]) x with
 | error e => rw [hx] at hs; cases hs
 | ok ts =>
  rw [hx] at hs
  simp only [] at hs
  refine ⟨ts, rfl, ?_⟩
  obtain ⟨a0, a1, a2, a3, a4⟩ := h
  simp only [] at hs ⊢
  by_cases h1 : a1 = 1
  ·subst h1
   simp only [if_true] at hs
   repeat' split at hs
   all_goals (cases hs)
   simp
  rw [if_neg h1] at hs
  by_cases h2 : a1 = 2
  ·subst h2
   simp only [if_true] at hs
   cases hv : varT vs (ss ++ [c]) a2 with
   | error e => rw [hv] at hs; cases hs
   | ok t =>
    rw [hv] at hs
    simp only [] at hs
    repeat' split at hs
    all_goals (cases hs)
    simp
  rw [if_neg h2] at hs
  by_cases h3 : a1 = 3
  ·subst h3
   simp only [if_true] at hs
   cases hv : arrT vs (ss ++ [c]) a2 with
   | error e => rw [hv] at hs; cases hs
   | ok t =>
    rw [hv] at hs
    simp only [] at hs
    repeat' split at hs
    all_goals (cases hs)
    simp
  rw [if_neg h3] at hs
  by_cases h4 : a1 = 4
  ·subst h4
   simp only [if_true] at hs
   cases rb with
   | error e => simp only [] at hs; split at hs <;> cases hs
   | ok u =>
    cases re with
    | error e => simp only [] at hs; split at hs <;> cases hs
    | ok u2 =>
     simp only [] at hs
     split at hs
     ·cases hs; simp
     ·cases hs
  rw [if_neg h4] at hs
  by_cases h5 : a1 = 5
  ·subst h5
   simp only [if_true] at hs
   cases rw with
   | error e => simp only [] at hs; split at hs <;> cases hs
   | ok u =>
    simp only [] at hs
    split at hs
    ·cases hs; simp
    ·cases hs
  rw [if_neg h5] at hs
  have hc : c' = c := by
   repeat' split at hs
   all_goals (cases hs)
   all_goals rfl
  simp [h1, h2, h3, h4, h5, hc]
theorem unitE_ok {α : Type} {x : Except Int α} (h : unitE x = .ok ()) : ∃ a, x = .ok a := by
 cases x with
 | ok a => exact ⟨a, rfl⟩
 | error e => cases h
theorem chS_cons {vs : VS} {cs : CSg} {ret : Int} {h : SH} {x : Exs} {b e r : Sts} {ss : List Scope} {c c' : Scope} {lp : Nat} (hs : chS vs cs ret (.cons h x b e r) ss c lp = .ok c') :
  ∃ c1, stF vs cs ret h x (unitE (chS vs cs ret b (ss ++ [c]) [] lp)) (unitE (chS vs cs ret e (ss ++ [c]) [] lp)) (unitE (chS vs cs ret b (ss ++ [c]) [] (lp + 1))) ss c lp = .ok c1 ∧ chS vs cs ret r ss c1 lp = .ok c' := by
 simp only [chS] at hs
 split at hs
 ·cases hs
 ·rename_i c1 h1
  exact ⟨c1, h1, hs⟩
/-- the types behind a statement that makes sense -/
theorem stT_ok {vs : VS} {cs : CSg} {ret : Int} {h : SH} {x : Exs} {rb re rw : Except Int Unit} {ss : List Scope} {c c' : Scope} {lp : Nat} (hs : stF vs cs ret h x rb re rw ss c lp = .ok c') : stT h (ss ++ [c]) = ss ++ [c'] := by
 obtain ⟨ts, -, h1, h2, -⟩ := stF_ok hs
 by_cases hk : h.kind = 1
 ·rw [stT_1 hk, giveT_last, h1 hk]
 ·rw [stT_n hk, h2 hk]
theorem addPars_ty (vs : VS) (cs : CSg) : ∀ (ps : List PW) (args : List Int) (lsc : LSc) (sc sc' : Scope), addPars vs cs ps sc = .ok sc' → tySc lsc = sc → args.length = ps.length → tySc (parSc ps args lsc) = sc'
 | [], [], lsc, sc, sc', h, ht, _ => by
  simp only [addPars] at h
  cases h
  exact ht
 | [], a :: l, _, _, _, _, _, hl => by simp at hl
 | p :: r, [], _, _, _, _, _, hl => by simp at hl
 | p :: r, a :: l, lsc, sc, sc', h, ht, hl => by
  simp only [addPars] at h
  split at h
  ·cases h
  ·refine addPars_ty vs cs r l _ _ _ h ?_ (by simpa using hl)
   rw [← ht]
   exact (putM_map (fun y : Int × Int => y.1) p.1 (p.2, a) lsc).symm
/-! ### fuel enough -/
def nd (A Z d s z : Nat) : Nat := (17 - d) * ((A + 1) * (Z + 4)) + (A - s) * (Z + 4) + z
theorem nd_mono {A Z d s s' z z' : Nat} (hs : s ≤ s') (hz : z + 1 ≤ z') : nd A Z d s' z + 1 ≤ nd A Z d s z' := by
 unfold nd
 have : (A - s') * (Z + 4) ≤ (A - s) * (Z + 4) := Nat.mul_le_mul_right _ (by omega)
 omega
theorem nd_tick {A Z d s s' z : Nat} (hs : s + 1 ≤ s') (ha : s < A) : nd A Z d s' z + 1 ≤ nd A Z d s z := by
 unfold nd
 have h1 : (A - s') * (Z + 4) ≤ (A - (s + 1)) * (Z + 4) := Nat.mul_le_mul_right _ (by omega)
 have h2 : (A - s) * (Z + 4) = (A - (s + 1)) * (Z + 4) + (Z + 4) := by
  rw [show A - s = (A - (s + 1)) + 1 by omega, Nat.succ_mul]
 omega
theorem nd_call {A Z d s s' z : Nat} (hd : d < 16) (hs : s ≤ s') (hz : z ≤ Z + 2) : nd A Z (d + 1) s' z + 1 ≤ nd A Z d s 0 := by
 unfold nd
 have h1 : (A - s') * (Z + 4) ≤ (A - s) * (Z + 4) := Nat.mul_le_mul_right _ (by omega)
 have h2 : (17 - d) * ((A + 1) * (Z + 4)) = (17 - (d + 1)) * ((A + 1) * (Z + 4)) + (A + 1) * (Z + 4) := by
  rw [show 17 - d = (17 - (d + 1)) + 1 by omega, Nat.succ_mul]
 have h3 : (A + 1) * (Z + 4) = A * (Z + 4) + (Z + 4) := Nat.succ_mul _ _
 omega
theorem nd_pos {A Z d s z : Nat} (hd : d ≤ 16) : 0 < nd A Z d s z := by
 unfold nd
 have h1 : 1 ≤ 17 - d := by omega
 have h3 : (A + 1) * (Z + 4) = A * (Z + 4) + (Z + 4) := Nat.succ_mul _ _
 have h2 : 1 * ((A + 1) * (Z + 4)) ≤ (17 - d) * ((A + 1) * (Z + 4)) := Nat.mul_le_mul_right _ h1
 omega
theorem Out.nl_bind {α β : Type} {o : Out α} {f : α → MS → Out β} (h : o ≠ .lost) (hf : ∀ a m, o = .ok a m → f a m ≠ .lost) : o.bind f ≠ .lost := by
 cases o with
 | ok a m => exact hf a m rfl
 | stop k x m => intro q; cases q
 | lost => exact absurd rfl h
theorem Out.of_bind {α β : Type} {o : Out α} {f : α → MS → Out β} (h : o.bind f ≠ .lost) : o ≠ .lost := fun q => by subst q; exact h rfl
theorem Out.from_ok {α : Type} {m m' : MS} {o : Out α} {a : α} (h : o.from m) (e : o = .ok a m') : MS.le m m' := by subst e; exact h
theorem Out.ty_ok {α : Type} {P : α → Prop} {m : MS} {o : Out α} {a : α} (h : o.Ty P) (e : o = .ok a m) : P a := by subst e; exact h
theorem tick_nl (cf : Cf) (m : MS) : tick cf m ≠ .lost := by
 unfold tick
 split <;> intro q <;> cases q
theorem tick_ok' {cf : Cf} {m m' : MS} {a : Unit} (h : tick cf m = .ok a m') : m.steps < cf.allowed ∧ m'.steps = m.steps + 1 := by
 unfold tick at h
 split at h
 ·cases h
 ·cases h
  exact ⟨by omega, rfl⟩
structure Evl.NL (cf : Cf) (Z n : Nat) (ev : Evl) : Prop where
 E : ∀ d fr h k m t, d ≤ 16 → XT cf (tyFr fr) h k t → nd cf.allowed Z d m.steps (k.sz + 1) ≤ n → ev.E d fr h k m ≠ .lost
 L : ∀ d fr l m ret lp c', d ≤ 16 → okS l = true → chS cf.vs cf.cs ret l (tyFr fr) [] lp = .ok c' → nd cf.allowed Z d m.steps (l.sz + 1) ≤ n → ev.L d fr l m ≠ .lost
 W : ∀ d fr h k b m t ret lp c', d ≤ 16 → XT cf (tyFr fr) h k t → okS b = true → chS cf.vs cf.cs ret b (tyFr fr) [] lp = .ok c' → nd cf.allowed Z d m.steps (k.sz + b.sz + 2) ≤ n → ev.W d fr h k b m ≠ .lost
 F : ∀ d s g l m, d ≤ 16 → getM s cf.cs = some g → g.host < 0 → l.length = g.params.length → nd cf.allowed Z d m.steps 0 ≤ n → ev.F d g l m ≠ .lost
section
variable {cf : Cf} {Z n : Nat} {ev : Evl} (hc : cf.Ok) (hz : ∀ f ∈ cf.fs, f.body.sz ≤ Z) (hg : ev.NL cf Z n) (hq : ev.Good) (ht : ev.Ty)
include hg
theorem evK_nl {d : Nat} {fr : Fr} {l : Exs} {i : Nat} {m : MS} {ts : List Int} (hd : d ≤ 16) (hi : i < l.len) (ho : okE l = true) (hx : tyE cf.vs cf.cs (tyFr fr) l = .ok ts) (hn : nd cf.allowed Z d m.steps l.sz ≤ n) : evK ev d fr l i m ≠ .lost := by
 obtain ⟨a, ha⟩ := Exs.toL_get hi
 obtain ⟨t, h1, -⟩ := tyE_xt ho hx i a ha
 have h2 := Exs.sz_at i a ha
 unfold evK
 rw [ha]
 refine hg.E _ _ _ _ _ t hd h1 (Nat.le_trans ?_ hn)
 unfold nd
 omega
include hq
theorem evArgs_nl {d : Nat} {fr : Fr} (hd : d ≤ 16) : ∀ {l : Exs} {m : MS} {ts : List Int}, okE l = true → tyE cf.vs cf.cs (tyFr fr) l = .ok ts → nd cf.allowed Z d m.steps l.sz ≤ n → evArgs ev d fr l m ≠ .lost
 | .nil, m, ts, _, _, _ => by intro q; cases q
 | .cons h k r, m, ts, ho, hx, hn => by
  obtain ⟨t, h1, -⟩ := tyE_xt ho hx 0 (h, k) rfl
  have h2 : ∃ ts, tyE cf.vs cf.cs (tyFr fr) r = .ok ts := by
   simp only [tyE] at hx
   repeat' split at hx
   all_goals (first | (cases hx; done) | skip)
   rename_i ts2 h3
   exact ⟨ts2, h3⟩
  obtain ⟨ts2, h2⟩ := h2
  simp only [okE, Bool.and_eq_true] at ho
  simp only [Exs.sz] at hn
  unfold evArgs
  refine Out.nl_bind (hg.E _ _ _ _ _ t hd h1 (Nat.le_trans ?_ hn)) fun v m1 e1 => Out.nl_bind (evArgs_nl hd ho.2 h2 (Nat.le_trans ?_ hn)) fun l m2 _ q => by cases q
  ·unfold nd; omega
  ·have hs := (Out.from_ok (hq.E _ _ _ _ _) e1).1
   have : nd cf.allowed Z d m1.steps r.sz + 1 ≤ nd cf.allowed Z d m.steps (k.sz + r.sz + 1) := nd_mono hs (by omega)
   unfold nd at this ⊢
   omega
include hc
theorem exprV_nl {d : Nat} {fr : Fr} {h : EH} {k : Exs} {m : MS} {t : Int} (hd : d ≤ 16) (hx : XT cf (tyFr fr) h k t) (hn : nd cf.allowed Z d m.steps (k.sz + 1) ≤ n + 1) : exprV cf ev d fr h k m ≠ .lost := by
 unfold exprV
 refine Out.nl_bind (tick_nl _ _) fun _ m1 e1 => ?_
 have hs := (tick_ok' e1).2
 have hn1 : nd cf.allowed Z d m1.steps k.sz ≤ n := by
  have := nd_mono (A := cf.allowed) (Z := Z) (d := d) (show m.steps ≤ m1.steps by omega) (Nat.le_refl (k.sz + 1))
  omega
 clear e1 hs hn
 obtain ⟨ks, hks, -⟩ := hx.kinds
 obtain ⟨hk, h4, h6, h7, h8, -⟩ := okH_n hx.ok
 have K0 : (h.kind = 4 ∨ h.kind = 6 ∨ h.kind = 7 ∨ h.kind = 8) → ∀ m', m1.steps ≤ m'.steps → evK ev d fr k 0 m' ≠ .lost := fun q m' hs => evK_nl hg hd (by rcases q with q | q | q | q <;> simp_all) hx.kids hks (by unfold nd at hn1 ⊢; have : (cf.allowed - m'.steps) * (Z + 4) ≤ (cf.allowed - m1.steps) * (Z + 4) := Nat.mul_le_mul_right _ (by omega); omega)
 have K1 : h.kind = 7 → ∀ m', m1.steps ≤ m'.steps → evK ev d fr k 1 m' ≠ .lost := fun q m' hs => evK_nl hg hd (by simp_all) hx.kids hks (by unfold nd at hn1 ⊢; have : (cf.allowed - m'.steps) * (Z + 4) ≤ (cf.allowed - m1.steps) * (Z + 4) := Nat.mul_le_mul_right _ (by omega); omega)
 have KC : h.kind = 5 → ∃ g, getM h.name cf.cs = some g ∧ g.params.length = k.len := fun q => by obtain ⟨g, q1, q2, -⟩ := hx.call q; exact ⟨g, q1, q2⟩
 have HO := hid hx.kids
 have HK := hid hk
 clear hk h4 h6 h7 h8 hx
 unfold exprB
 split
 ·intro q; cases q
 split
 ·intro q; cases q
 split
 ·rename_i hk
  refine Out.nl_bind (K0 (.inl hk) _ (Nat.le_refl _)) fun i m2 _ => ?_
  split <;> intro q <;> cases q
 split
 ·rename_i hk
  refine Out.nl_bind (evArgs_nl hg hq hd HO.out hks hn1) fun args m2 e2 => ?_
  obtain ⟨g, hg1, hg2⟩ := KC hk
  rw [hg1]
  simp only []
  have hl := Out.ty_ok (evArgs_len ev d fr k m1) e2
  have hs := (Out.from_ok (evArgs_from hq d fr k m1) e2).1
  split
  ·rename_i hh
   refine hg.F d _ g args m2 hd hg1 hh (by rw [hl, hg2]) ?_
   unfold nd at hn1 ⊢
   have : (cf.allowed - m2.steps) * (Z + 4) ≤ (cf.allowed - m1.steps) * (Z + 4) := Nat.mul_le_mul_right _ (by omega)
   omega
  ·rename_i hh
   obtain ⟨x, hx⟩ := (hc.call _ g hg1).2 hh
   unfold hostV
   rw [hx]
   split <;> intro q <;> cases q
 split
 ·rename_i hk
  refine Out.nl_bind (K0 (.inr (.inl hk)) _ (Nat.le_refl _)) fun v m2 _ => ?_
  repeat' split
  all_goals (intro q; cases q)
 split
 ·rename_i hk
  refine Out.nl_bind (K0 (.inr (.inr (.inl hk))) _ (Nat.le_refl _)) fun a m2 e2 => ?_
  split
  ·intro q; cases q
  split
  ·intro q; cases q
  refine Out.nl_bind (K1 hk _ ?_) fun b m3 _ => ?_
  ·refine (Out.from_ok (m := m1) ?_ e2).1
   unfold evK
   split
   ·exact hq.E _ _ _ _ _
   ·trivial
  repeat' split
  all_goals (intro q; cases q)
 split
 ·rename_i hk
  refine Out.nl_bind (K0 (.inr (.inr (.inr hk))) _ (Nat.le_refl _)) fun v m2 _ => ?_
  repeat' split
  all_goals (intro q; cases q)
 ·rename_i q1 q2 q3 q4 q5 q6 q7
  rcases HK.out with q | q | q | q | q | q | q | q
  ·exact absurd (.inl q) q1
  ·exact absurd (.inr q) q1
  ·exact absurd q q2
  ·exact absurd q q3
  ·exact absurd q q4
  ·exact absurd q q5
  ·exact absurd q q6
  ·exact absurd q q7
include ht
omit hc ht in
theorem stmtV_nl {d : Nat} {fr : Fr} {h : SH} {x : Exs} {b e : Sts} {m : MS} {ss : List Scope} {c c1 : Scope} {ret : Int} {lp : Nat} (hd : d ≤ 16) (hty : tyFr fr = ss ++ [c]) (hos : okSH h x.len x.fk b.len e.len = true) (hox : okE x = true) (hob : okS b = true) (hoe : okS e = true)
  (hs : stF cf.vs cf.cs ret h x (unitE (chS cf.vs cf.cs ret b (ss ++ [c]) [] lp)) (unitE (chS cf.vs cf.cs ret e (ss ++ [c]) [] lp)) (unitE (chS cf.vs cf.cs ret b (ss ++ [c]) [] (lp + 1))) ss c lp = .ok c1)
  (hn : nd cf.allowed Z d m.steps (x.sz + b.sz + e.sz + 1) ≤ n) : stmtV cf ev d fr h x b e m ≠ .lost := by
 obtain ⟨ts, hts, -, -, -, -, h4, h5⟩ := stF_ok hs
 have har := okSH_ar hos
 rw [← hty] at hts
 unfold stmtV
 refine Out.nl_bind (tick_nl _ _) fun _ m1 e1 => ?_
 have hs1 := (tick_ok' e1).2
 have le : ∀ (m' : MS) (z : Nat), m1.steps ≤ m'.steps → z ≤ x.sz + b.sz + e.sz + 1 → nd cf.allowed Z d m'.steps z ≤ n := fun m' z hs hz => by
  refine Nat.le_trans ?_ hn
  unfold nd
  have : (cf.allowed - m'.steps) * (Z + 4) ≤ (cf.allowed - m.steps) * (Z + 4) := Nat.mul_le_mul_right _ (by omega)
  omega
 have fromK : ∀ (i : Nat) (m m' : MS) (v : Int), evK ev d fr x i m = .ok v m' → m.steps ≤ m'.steps := fun i m m' v e => (Out.from_ok (m := m) (by
   unfold evK
   split
   ·exact hq.E _ _ _ _ _
   ·trivial) e).1
 have K0 : arSH h.kind x.len = true → (h.kind = 1 ∨ h.kind = 2 ∨ h.kind = 3 ∨ h.kind = 4 ∨ h.kind = 5 ∨ h.kind = 8 ∨ 0 < x.len) → ∀ m', m1.steps ≤ m'.steps → evK ev d fr x 0 m' ≠ .lost := fun har q m' hs => evK_nl hg hd (by
   rcases q with q | q | q | q | q | q | q
   ·rw [q] at har; exact of_decide_eq_true har
   ·rw [q] at har; exact of_decide_eq_true har
   ·rw [q] at har; have : 2 ≤ x.len := of_decide_eq_true har; omega
   ·rw [q] at har; exact of_decide_eq_true har
   ·rw [q] at har; exact of_decide_eq_true har
   ·rw [q] at har; exact of_decide_eq_true har
   ·exact q) hox hts (le _ _ hs (by omega))
 have K1 : h.kind = 3 → ∀ m', m1.steps ≤ m'.steps → evK ev d fr x 1 m' ≠ .lost := fun q m' hs => evK_nl hg hd (by rw [q] at har; have : 2 ≤ x.len := of_decide_eq_true har; omega) hox hts (le _ _ hs (by omega))
 have HAR := hid har
 have HL := hid le
 have HF := hid fromK
 have HOS := hid hos
 have H4 := hid h4
 have H5 := hid h5
 clear har le fromK hos h4 h5 hs
 split
 ·rename_i hk
  exact Out.nl_bind (K0 HAR.out (.inl hk) _ (Nat.le_refl _)) fun v m2 _ q => by cases q
 split
 ·rename_i _ hk
  refine Out.nl_bind ?_ fun v m2 _ q => by cases q
  unfold setV
  refine Out.nl_bind (K0 HAR.out (.inr (.inl hk)) _ (Nat.le_refl _)) fun v m2 _ => ?_
  repeat' split
  all_goals (intro q; cases q)
 split
 ·rename_i _ _ hk
  refine Out.nl_bind ?_ fun v m2 _ q => by cases q
  unfold putV
  refine Out.nl_bind (K0 HAR.out (.inr (.inr (.inl hk))) _ (Nat.le_refl _)) fun v m2 e2 => ?_
  split
  ·intro q; cases q
  refine Out.nl_bind (K1 hk _ (HF.out _ _ _ _ e2)) fun v m3 _ => ?_
  repeat' split
  all_goals (intro q; cases q)
 split
 ·rename_i _ _ _ hk
  obtain ⟨r1, r2⟩ := H4.out hk
  obtain ⟨cb, hcb⟩ := unitE_ok r1
  obtain ⟨ce, hce⟩ := unitE_ok r2
  refine Out.nl_bind (K0 HAR.out (.inr (.inr (.inr (.inl hk)))) _ (Nat.le_refl _)) fun v m2 e2 => ?_
  have hs2 := HF.out _ _ _ _ e2
  split
  ·exact hg.L _ _ _ _ ret lp ce hd hoe (by rw [hty]; exact hce) (HL.out _ _ hs2 (by omega))
  ·exact hg.L _ _ _ _ ret lp cb hd hob (by rw [hty]; exact hcb) (HL.out _ _ hs2 (by omega))
 split
 ·rename_i _ _ _ _ hk
  obtain ⟨cb, hcb⟩ := unitE_ok (H5.out hk)
  have hlen : 0 < x.len := by have := HAR.out; rw [hk] at this; exact of_decide_eq_true this
  obtain ⟨a, ha⟩ := Exs.toL_get hlen
  obtain ⟨t, hx, -⟩ := tyE_xt hox hts 0 a ha
  have hz2 := Exs.sz_at 0 a ha
  rw [ha]
  exact hg.W _ _ _ _ _ _ t ret (lp + 1) cb hd hx hob (by rw [hty]; exact hcb) (HL.out _ _ (Nat.le_refl _) (by omega))
 split
 ·intro q; cases q
 split
 ·intro q; cases q
 split
 ·rename_i _ _ _ _ _ _ _ hk
  exact Out.nl_bind (K0 HAR.out (.inr (.inr (.inr (.inr (.inr (.inl hk)))))) _ (Nat.le_refl _)) fun v m2 _ q => by cases q
 split
 ·rename_i hk
  have hlen : 0 < x.len := by
   have := HOS.out
   obtain ⟨a0, a1, a2, a3, a4⟩ := h
   simp only [] at hk
   subst hk
   rw [okSH_9] at this
   simp only [Bool.and_eq_true] at this
   have := plainS_n this.1
   omega
  exact Out.nl_bind (K0 HAR.out (.inr (.inr (.inr (.inr (.inr (.inr hlen)))))) _ (Nat.le_refl _)) fun v m2 _ q => by cases q
 ·intro q; cases q
omit hc in
theorem stmtsV_nl {d : Nat} (hd : d ≤ 16) : ∀ {l : Sts} {fr : Fr} {m : MS} {ss : List Scope} {c c' : Scope} {ret : Int} {lp : Nat}, tyFr fr = ss ++ [c] → okS l = true → chS cf.vs cf.cs ret l ss c lp = .ok c' → nd cf.allowed Z d m.steps l.sz ≤ n → stmtsV cf ev d l fr m ≠ .lost
 | .nil, fr, m, ss, c, c', ret, lp, _, _, _, _ => by intro q; cases q
 | .cons h x b e r, fr, m, ss, c, c', ret, lp, hty, ho, hs, hn => by
  obtain ⟨c1, h1, h2⟩ := chS_cons hs
  simp only [okS, Bool.and_eq_true] at ho
  simp only [Sts.sz] at hn
  unfold stmtsV
  refine Out.nl_bind (stmtV_nl hg hq hd hty ho.1 ho.2.2.2.1 ho.2.1 ho.2.2.1 h1 (Nat.le_trans ?_ hn)) fun q m1 e1 => ?_
  ·unfold nd; omega
  have hs1 := (Out.from_ok (stmtV_from hq d fr h x b e m) e1).1
  have ht1 := Out.ty_ok (stmtV_ty ht d fr h x b e m) e1
  rw [hty, stT_ok h1] at ht1
  split
  ·refine stmtsV_nl hd ht1 ho.2.2.2.2 h2 (Nat.le_trans ?_ hn)
   unfold nd
   have : (cf.allowed - m1.steps) * (Z + 4) ≤ (cf.allowed - m.steps) * (Z + 4) := Nat.mul_le_mul_right _ (by omega)
   omega
  ·intro q; cases q
omit hc in
theorem listV_nl {d : Nat} {fr : Fr} {l : Sts} {m : MS} {ret : Int} {lp : Nat} {c' : Scope} (hd : d ≤ 16) (ho : okS l = true) (hs : chS cf.vs cf.cs ret l (tyFr fr) [] lp = .ok c') (hn : nd cf.allowed Z d m.steps (l.sz + 1) ≤ n + 1) : listV cf ev d fr l m ≠ .lost := by
 unfold listV
 refine Out.nl_bind (stmtsV_nl hg hq ht hd (by simp [tyFr, tySc]) ho hs ?_) fun q m1 _ q => by cases q
 unfold nd at hn ⊢
 omega
omit hc in
theorem whileV_nl {d : Nat} {fr : Fr} {h : EH} {k : Exs} {b : Sts} {m : MS} {t ret : Int} {lp : Nat} {c' : Scope} (hd : d ≤ 16) (hx : XT cf (tyFr fr) h k t) (ho : okS b = true) (hs : chS cf.vs cf.cs ret b (tyFr fr) [] lp = .ok c')
  (hn : nd cf.allowed Z d m.steps (k.sz + b.sz + 2) ≤ n + 1) : whileV cf ev d fr h k b m ≠ .lost := by
 unfold whileV
 refine Out.nl_bind (hg.E _ _ _ _ _ t hd hx (by unfold nd at hn ⊢; omega)) fun c m1 e1 => ?_
 have hs1 := (Out.from_ok (hq.E _ _ _ _ _) e1).1
 split
 ·intro q; cases q
 refine Out.nl_bind (hg.L _ _ _ _ ret lp c' hd ho hs ?_) fun q m2 e2 => ?_
 ·have := nd_mono (A := cf.allowed) (Z := Z) (d := d) hs1 (show (b.sz + 1) + 1 ≤ k.sz + b.sz + 2 by omega)
  omega
 have hs2 := (Out.from_ok (hq.L _ _ _ _) e2).1
 have ht2 := Out.ty_ok (ht.L _ _ _ _) e2
 split
 ·intro q; cases q
 split
 ·intro q; cases q
 refine Out.nl_bind (tick_nl _ _) fun _ m3 e3 => ?_
 obtain ⟨a1, a2⟩ := tick_ok' e3
 refine hg.W _ _ _ _ _ _ t ret lp c' hd (by rw [ht2]; exact hx) ho (by rw [ht2]; exact hs) ?_
 have := nd_tick (A := cf.allowed) (Z := Z) (d := d) (s := m.steps) (s' := m3.steps) (z := k.sz + b.sz + 2) (by omega) (by omega)
 omega
include hz
omit hq ht in
theorem funcV_nl {d : Nat} {s : ByteArray} {g : Sig} {l : List Int} {m : MS} (hd : d ≤ 16) (hs : getM s cf.cs = some g) (hh : g.host < 0) (hl : l.length = g.params.length) (hn : nd cf.allowed Z d m.steps 0 ≤ n + 1) : funcV cf ev d g l m ≠ .lost := by
 obtain ⟨f, h1, h2⟩ := (hc.call s g hs).1 hh
 have hf := List.mem_of_getElem? h1
 obtain ⟨h3, sc, c, h4, h5⟩ := hc.fn f hf
 unfold funcV
 split
 ·intro q; cases q
 ·rename_i hd2
  rw [h1]
  simp only []
  refine Out.nl_bind (hg.L _ _ _ _ f.type 0 c (by omega) h3 ?_ ?_) fun q m1 _ q => by cases q
  ·have := addPars_ty cf.vs cf.cs f.params l [] [] sc h4 rfl (by rw [hl, h2])
   rw [h2] at this
   rw [show tyFr [parSc g.params l []] = [tySc (parSc g.params l [])] from rfl, this]
   exact h5
  ·have := nd_call (A := cf.allowed) (Z := Z) (d := d) (s := m.steps) (s' := m.steps) (z := f.body.sz + 1) (by omega) (Nat.le_refl _) (by have := hz f hf; omega)
   omega
end
theorem evl_nl {cf : Cf} {Z : Nat} (hc : cf.Ok) (hz : ∀ f ∈ cf.fs, f.body.sz ≤ Z) : ∀ n, (evl cf n).NL cf Z n
 | 0 => ⟨fun d fr h k m t hd _ hn => by have := nd_pos (A := cf.allowed) (Z := Z) (s := m.steps) (z := k.sz + 1) hd; omega, fun d fr l m ret lp c' hd _ _ hn => by have := nd_pos (A := cf.allowed) (Z := Z) (s := m.steps) (z := l.sz + 1) hd; omega,
   fun d fr h k b m t ret lp c' hd _ _ _ hn => by have := nd_pos (A := cf.allowed) (Z := Z) (s := m.steps) (z := k.sz + b.sz + 2) hd; omega, fun d s g l m hd _ _ _ hn => by have := nd_pos (A := cf.allowed) (Z := Z) (s := m.steps) (z := 0) hd; omega⟩
 | n + 1 => ⟨fun d fr h k m t hd hx hn => exprV_nl hc (evl_nl hc hz n) (evl_good cf n) hd hx hn, fun d fr l m ret lp c' hd ho hs hn => listV_nl (evl_nl hc hz n) (evl_good cf n) (evl_ty cf n) hd ho hs hn,
   fun d fr h k b m t ret lp c' hd hx ho hs hn => whileV_nl (evl_nl hc hz n) (evl_good cf n) (evl_ty cf n) hd hx ho hs hn, fun d s g l m hd hs hh hl hn => funcV_nl hc hz (evl_nl hc hz n) hd hs hh hl hn⟩
end
section
open Go.Shelf
/-- one expression of a row -/
structure KidR (w : World) (b q : Nat) (t : Int) (a : EH × Exs) (v : Value) : Prop where
 c0 : w.cell? ⟨b, q, none⟩ = some (.int .i64 t)
 c1 : w.cell? ⟨b, q + 1, none⟩ = some (.int .u8 a.1.kind)
 c2 : w.cell? ⟨b, q + 2, none⟩ = some (.int .u32 a.1.word)
 c3 : w.cell? ⟨b, q + 3, none⟩ = some (.int .u8 a.1.type)
 c4 : w.cell? ⟨b, q + 4, none⟩ = some (.string a.1.name)
 c5 : w.cell? ⟨b, q + 5, none⟩ = some (.string a.1.sign)
 c6 : w.cell? ⟨b, q + 6, none⟩ = some v
theorem KidR.sub {w w' : World} {b q : Nat} {t : Int} {a : EH × Exs} {v : Value} (h : KidR w b q t a v) (hc : Cells w w') : KidR w' b q t a v := ⟨hc _ _ h.c0, hc _ _ h.c1, hc _ _ h.c2, hc _ _ h.c3, hc _ _ h.c4, hc _ _ h.c5, hc _ _ h.c6⟩
/-- kid i of expressions in memory -/
theorem SlE.kid {w : World} {l : Exs} {v : Value} (h : SlE w false none l v) (i : Nat) (a : EH × Exs) (ha : l.toL[i]? = some a) :
  ∃ b off cap t ka kc, v = .slice (some ⟨b, off, none⟩) l.len cap ∧ KidR w b (off + i * 7) t a (.slice ka a.2.len kc) ∧ SlE w false none a.2 (.slice ka a.2.len kc) := by
 obtain ⟨ka, kb, koff, kcap, rfl, y2, y3⟩ := SlE_iff.1 h
 obtain ⟨hi, rfl⟩ := List.getElem?_eq_some_iff.1 ha
 obtain ⟨⟨⟨t, z0, _⟩, z1, z2, z3, z4, z5⟩, v, z6, hv⟩ := y3 i hi
 have hk : ka = some ⟨kb, koff, none⟩ := by
  rcases y2 with ⟨q, _⟩ | ⟨q, _⟩
  ·omega
  ·exact q
 subst hk
 obtain ⟨xa, xc, rfl⟩ := hv.shape'
 exact ⟨kb, koff, kcap, t, xa, xc, by rw [Exs.toL_len], ⟨z0, z1, z2, z3, z4, z5, z6⟩, hv⟩
section
variable {p : Pt} {cf : Cf} {u : UT} {n d : Nat} {m : MS} {ve : EvS} {F : Nat} {fb : List BSc} {g cap : Nat} {ms : List Nat} {w w' : World}
/-- over a walk that does not alter the frame -/
theorem FrR.move (h : FrR w n F fb g cap ms) {a : Nat} (hm : MeR p a n d m ve w) (hk : Kpt (p.TE ve) w.heap.size w w') : FrR w' n F fb g cap ms where
 box := hk.box h.box h.box.lt (hm.notBox h.box (by decide) (by decide) (by decide))
 row := hk.own h.row fun b hb => ⟨(h.row.lt b hb).2, hm.other h.row (by decide) (by decide) (by decide) hb⟩
 len := h.len
 maps := fun i h1 h2 => hk.map (h.maps i h1 h2) (h.maps i h1 h2).lt (by obtain ⟨es, c, q, _⟩ := h.maps i h1 h2; exact hm.notMap q)
 boxes := fun sc h1 x h2 => hk.box (h.boxes sc h1 x h2) (h.boxes sc h1 x h2).lt (hm.notBox (h.boxes sc h1 x h2) (by decide) (by decide) (by decide))
 nd := h.nd
 apart := h.apart
 far := h.far
 le := h.le
theorem pos_of {m m1 : MS} (hs : m1.held.map List.length = m.held.map List.length) (h : ∀ q ∈ m.held, 0 < q.length ∧ q.length ≤ 4096) : ∀ q ∈ m1.held, 0 < q.length ∧ q.length ≤ 4096 := by
 intro q hq
 have h1 : q.length ∈ m1.held.map List.length := List.mem_map.2 ⟨q, hq, rfl⟩
 rw [hs] at h1
 obtain ⟨r, h2, h3⟩ := List.mem_map.1 h1
 rw [← h3]
 exact h r h2
theorem CtR.move (h : CtR p cf u n d m ve F fb g cap ms w) {d1 : Nat} {m1 : MS} {ve1 : EvS} (hm : MeR p cf.allowed n d1 m1 ve1 w') (hk : Kpt (p.TE ve) w.heap.size w w') (hs : m1.held.map List.length = m.held.map List.length) : CtR p cf u n d1 m1 ve1 F fb g cap ms w' :=
 ⟨h.st.move h.me hk h.me.size, hm, h.fr.move h.me hk, pos_of hs h.pos⟩
/-- old cells stay -/
theorem CtR.cells (h : CtR p cf u n d m ve F fb g cap ms w) (hk : Kpt (p.TE ve) w.heap.size w w') : Cells (onlyW w (oldB p.B)) (onlyW w' (oldB p.B)) :=
 hk.cells fun b hb => ⟨by have := h.me.size; have := h.st.Bn; simp at hb; omega, h.me.old h.st.M h.st.Bn (by simpa using hb)⟩
end
theorem cells_old_below {w w' : World} {B : Nat} (hb : Below w.heap.size w w') : Cells (onlyW w (oldB B)) (onlyW w' (oldB B)) := cells_move fun a u h1 h2 => ⟨h1, cell_on h2 hb⟩
/-! ### walks one behind another -/
theorem TE_back {p : Pt} {ve ve1 : EvS} {k b : Nat} (hv : Vc ve ve1 k) (hb : b < k) (h : p.TE ve1 b) : p.TE ve b := by
 rcases h with h | h
 ·exact .inl h
 ·rcases hv.1 with q | ⟨c, q, q2⟩
  ·exact .inr (q ▸ h)
  ·rw [q] at h; cases h; omega
theorem Vc.trans {ve ve1 ve2 : EvS} {k k1 : Nat} (h : Vc ve ve1 k) (h2 : Vc ve1 ve2 k1) (hk : k ≤ k1) : Vc ve ve2 k := by
 refine ⟨?_, fun x hx => ?_⟩
 ·rcases h2.1 with q | ⟨c, q, q2⟩
  ·rcases h.1 with r | ⟨c, r, r2⟩
   ·exact .inl (q.trans r)
   ·exact .inr ⟨c, q.trans r, r2⟩
  ·exact .inr ⟨c, q, by omega⟩
 ·rcases h2.2 x hx with q | q
  ·exact h.2 x q
  ·exact .inr fun b hb => Nat.le_trans hk (q b hb)
theorem Kpt.chain {p : Pt} {ve ve1 : EvS} {k k1 : Nat} {w w1 w2 : World} (hK : Kpt (p.TE ve) k w w1) (hv : Vc ve ve1 k) (hk : k ≤ k1) (h : Kpt (p.TE ve1) k1 w1 w2) : Kpt (p.TE ve) k w w2 :=
 hK.trans (h.mono hk fun b hb ht => TE_back hv hb ht)
theorem PostM.chain {p : Pt} {a n d k k1 : Nat} {ve ve1 : EvS} {α : Type} {f : α → Ending} {o : Out α} {w w1 w2 : World} {e : Ending} (hK : Kpt (p.TE ve) k w w1) (hv : Vc ve ve1 k) (hk : k ≤ k1) (h : PostM p a n d k1 ve1 f o w1 e w2) : PostM p a n d k ve f o w e w2 := by
 cases o with
 | ok x m =>
  obtain ⟨h1, ve', h2, h3, h4⟩ := h
  exact ⟨h1, ve', h2, hK.chain hv hk h3, Vc.trans hv h4 hk⟩
 | stop x y m =>
  obtain ⟨h1, ve', d', h2, h3, h4⟩ := h
  exact ⟨h1, ve', d', h2, hK.chain hv hk h3, Vc.trans hv h4 hk⟩
 | lost => trivial
end
end Go.Proofs.YtlabadkfkbenoaaGreatDoor
