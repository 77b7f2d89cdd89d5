/- Walks and plain laws, merged: EvlC LarA LarL LarP LarB CalP LarC. No condition. -/
import Derived.Test.YtlabadkfkbenoaaGreatDoorKm25
import Derived.Deep.RegionHeld3
namespace Go.Proofs.YtlabadkfkbenoaaGreatDoor
open Go.RowKit
set_option linter.unusedVariables false
set_option linter.unusedSimpArgs false
set_option maxRecDepth 100000
set_option maxHeartbeats 64000000
section
def calmE : Exs → Bool
 | .nil => true
 | .cons h k r => h.kind != 5 && (calmE k && calmE r)
def calmS : Sts → Bool
 | .nil => true
 | .cons h x b e r => h.kind != 2 && (h.kind != 3 && (h.kind != 9 && (calmE x && (calmS b && (calmS e && calmS r)))))
theorem calmE_at : ∀ {l : Exs}, calmE l = true → ∀ (i : Nat) (a : EH × Exs), l.toL[i]? = some a → a.1.kind ≠ 5 ∧ calmE a.2 = true
 | .nil, _, i, a, h => by simp [Exs.toL] at h
 | .cons h k r, hc, i, a, ha => by
  simp only [calmE, Bool.and_eq_true, bne_iff_ne] at hc
  cases i with
  | zero =>
   simp only [Exs.toL, List.getElem?_cons_zero, Option.some.injEq] at ha
   subst ha
   exact ⟨hc.1, hc.2.1⟩
  | succ i =>
   simp only [Exs.toL, List.getElem?_cons_succ] at ha
   exact calmE_at hc.2.2 i a ha
def MS.same (a b : MS) : Prop := b.held = a.held ∧ b.reps = a.reps ∧ b.evs = a.evs
theorem MS.same_refl (a : MS) : MS.same a a := ⟨rfl, rfl, rfl⟩
theorem MS.same_trans {a b c : MS} (h : MS.same a b) (k : MS.same b c) : MS.same a c := ⟨k.1.trans h.1, k.2.1.trans h.2.1, k.2.2.trans h.2.2⟩
def Out.calm {α : Type} (m : MS) : Out α → Prop
 | .ok _ m' => MS.same m m'
 | .stop _ _ m' => MS.same m m'
 | .lost => True
theorem Out.calm_bind {α β : Type} {m : MS} {o : Out α} {f : α → MS → Out β} (h : o.calm m) (hf : ∀ a m', (f a m').calm m') : (o.bind f).calm m := by
 cases o with
 | ok a m' =>
  have h1 : MS.same m m' := h
  have h2 := hf a m'
  show (f a m').calm m
  cases hq : f a m' with
  | ok b m2 => rw [hq] at h2; exact MS.same_trans h1 h2
  | stop k x m2 => rw [hq] at h2; exact MS.same_trans h1 h2
  | lost => trivial
 | stop k x m' => exact h
 | lost => trivial
theorem tick_calm (cf : Cf) (m : MS) : (tick cf m).calm m := by
 unfold tick
 split <;> exact ⟨rfl, rfl, rfl⟩
structure Evl.Calm (ev : Evl) : Prop where
 E : ∀ d fr h k m, h.kind ≠ 5 → calmE k = true → (ev.E d fr h k m).calm m
 L : ∀ d fr l m, calmS l = true → (ev.L d fr l m).calm m
 W : ∀ d fr h k b m, h.kind ≠ 5 → calmE k = true → calmS b = true → (ev.W d fr h k b m).calm m
section
variable {cf : Cf} {ev : Evl} (hg : ev.Calm)
include hg
theorem evK_calm (d : Nat) (fr : Fr) (l : Exs) (i : Nat) (m : MS) (hl : calmE l = true) : (evK ev d fr l i m).calm m := by
 unfold evK
 split
 ·rename_i a ha
  obtain ⟨h1, h2⟩ := calmE_at hl i a ha
  exact hg.E _ _ _ _ _ h1 h2
 ·trivial
theorem exprB_calm (d : Nat) (fr : Fr) (h : EH) (k : Exs) (m : MS) (hk : h.kind ≠ 5) (hc : calmE k = true) : (exprB cf ev d fr h k m).calm m := by
 have HK := hid hk
 clear hk
 unfold exprB
 split
 ·exact MS.same_refl _
 split
 ·exact MS.same_refl _
 split
 ·refine Out.calm_bind (evK_calm hg _ _ _ _ _ hc) fun i m1 => ?_
  split <;> exact MS.same_refl _
 split
 ·rename_i h5; exact absurd h5 HK.out
 split
 ·refine Out.calm_bind (evK_calm hg _ _ _ _ _ hc) fun v m1 => ?_
  repeat' split
  all_goals exact MS.same_refl _
 split
 ·refine Out.calm_bind (evK_calm hg _ _ _ _ _ hc) fun a m1 => ?_
  split
  ·exact MS.same_refl _
  split
  ·exact MS.same_refl _
  refine Out.calm_bind (evK_calm hg _ _ _ _ _ hc) fun b m2 => ?_
  repeat' split
  all_goals exact MS.same_refl _
 split
 ·refine Out.calm_bind (evK_calm hg _ _ _ _ _ hc) fun v m1 => ?_
  repeat' split
  all_goals exact MS.same_refl _
 ·trivial
theorem stmtV_calm (d : Nat) (fr : Fr) (h : SH) (x : Exs) (b e : Sts) (m : MS) (h2 : h.kind ≠ 2) (h3 : h.kind ≠ 3) (hx : calmE x = true) (hb : calmS b = true) (he : calmS e = true) : (stmtV cf ev d fr h x b e m).calm m := by
 have H2 := hid h2
 have H3 := hid h3
 clear h2 h3
 unfold stmtV
 refine Out.calm_bind (tick_calm _ _) fun _ m1 => ?_
 split
 ·exact Out.calm_bind (evK_calm hg _ _ _ _ _ hx) fun v m1 => MS.same_refl _
 split
 ·rename_i q; exact absurd q H2.out
 split
 ·rename_i q; exact absurd q H3.out
 split
 ·refine Out.calm_bind (evK_calm hg _ _ _ _ _ hx) fun v m1 => ?_
  split
  ·exact hg.L _ _ _ _ he
  ·exact hg.L _ _ _ _ hb
 split
 ·split
  ·rename_i a ha
   obtain ⟨q1, q2⟩ := calmE_at hx 0 a ha
   exact hg.W _ _ _ _ _ _ q1 q2 hb
  ·trivial
 split
 ·exact MS.same_refl _
 split
 ·exact MS.same_refl _
 split
 ·exact Out.calm_bind (evK_calm hg _ _ _ _ _ hx) fun v m1 => MS.same_refl _
 split
 ·exact Out.calm_bind (evK_calm hg _ _ _ _ _ hx) fun v m1 => MS.same_refl _
 ·exact MS.same_refl _
theorem stmtsV_calm (d : Nat) : ∀ (l : Sts) (fr : Fr) (m : MS), calmS l = true → (stmtsV cf ev d l fr m).calm m
 | .nil, fr, m, _ => MS.same_refl _
 | .cons h x b e r, fr, m, hc => by
  simp only [calmS, Bool.and_eq_true, bne_iff_ne] at hc
  unfold stmtsV
  refine Out.calm_bind (stmtV_calm hg _ _ _ _ _ _ _ hc.1 hc.2.1 hc.2.2.2.1 hc.2.2.2.2.1 hc.2.2.2.2.2.1) fun q m1 => ?_
  split
  ·exact stmtsV_calm d r _ _ hc.2.2.2.2.2.2
  ·exact MS.same_refl _
theorem whileV_calm (d : Nat) (fr : Fr) (h : EH) (k : Exs) (b : Sts) (m : MS) (hk : h.kind ≠ 5) (hc : calmE k = true) (hb : calmS b = true) : (whileV cf ev d fr h k b m).calm m := by
 unfold whileV
 refine Out.calm_bind (hg.E _ _ _ _ _ hk hc) fun c m1 => ?_
 split
 ·exact MS.same_refl _
 ·refine Out.calm_bind (hg.L _ _ _ _ hb) fun q m2 => ?_
  split
  ·exact MS.same_refl _
  split
  ·exact MS.same_refl _
  ·exact Out.calm_bind (tick_calm _ _) fun _ m3 => hg.W _ _ _ _ _ _ hk hc hb
end
theorem evl_calm (cf : Cf) : ∀ n, (evl cf n).Calm
 | 0 => ⟨fun _ _ _ _ _ _ _ => trivial, fun _ _ _ _ _ => trivial, fun _ _ _ _ _ _ _ _ _ => trivial⟩
 | n + 1 => ⟨fun d fr h k m hk hc => Out.calm_bind (tick_calm _ _) fun _ m1 => exprB_calm (evl_calm cf n) _ _ _ _ _ hk hc, fun d fr l m hc => Out.calm_bind (stmtsV_calm (evl_calm cf n) _ _ _ _ hc) fun q m1 => MS.same_refl _,
  fun d fr h k b m hk hc hb => whileV_calm (evl_calm cf n) _ _ _ _ _ _ hk hc hb⟩
theorem funcV_calm (cf : Cf) (n d : Nat) (g : Sig) (l : List Int) (m : MS) (hc : ∀ f, cf.fs[g.fn.toNat]? = some f → calmS f.body = true) : ((evl cf n).F d g l m).calm m := by
 cases n with
 | zero => trivial
 | succ n =>
  show (funcV cf (evl cf n) d g l m).calm m
  unfold funcV
  split
  ·exact MS.same_refl _
  ·split
   ·trivial
   ·rename_i f hf
    exact Out.calm_bind ((evl_calm cf n).L _ _ _ _ (hc f hf)) fun q m1 => MS.same_refl _
end
section
open Go.Shelf
def LessP (n m : Int) : Prop := m ≤ n ∧ (0 ≤ m ∨ m = n)
theorem LessP.refl (n : Int) : LessP n n := ⟨by omega, .inr rfl⟩
theorem LessP.trans {a b c : Int} (h : LessP a b) (k : LessP b c) : LessP a c := by
 obtain ⟨h1, h2⟩ := h
 obtain ⟨k1, k2⟩ := k
 exact ⟨by omega, by omega⟩
def H62 (n : Nat) : Prop := ∀ (l : Exs) (q : Int) (v : Value) (w : World), l.sz < n → l.sz ≤ 100000000 → -1000000000 ≤ q → q ≤ 1000000000 → SlE w false none l v →
 Calls Tryz.prog 62 #[v, .int .i64 q] w fun e w' => (∃ m, e = .returned (.int .i64 m) ∧ LessP q m) ∧ Below w.heap.size w w'
theorem less62 : ∀ n, H62 n := by
 intro n
 induction n with
 | zero => intro l q v w hn; omega
 | succ n ih =>
  have IH := hid ih
  clear ih
  intro kids q v w hn hs hq1 hq2 hv
  obtain ⟨ka, b, off, c, rfl, hka, hin⟩ := hv
  have hl := kids.len_le
  have hS := hid (And.intro hn hs)
  have hQ := hid (And.intro hq1 hq2)
  have hI := hid hin
  have hkb : kids.len ≤ 100000000 := by omega
  obtain ⟨len, hlen⟩ : ∃ m, m = kids.len := ⟨_, rfl⟩
  rw [← hlen] at hka hl hkb ⊢
  have hLen := hid hlen
  clear hn hs hin hlen hl hq1 hq2
  go_enter Tryz.func62, Tryz.ntmps62
  go_wp2_with fail
  go_loopw [1, 5] (fun z i wr => ∃ (k : Nat) (m : Int) (r : Exs), z = .int .i64 m ∧ k + r.len = len ∧ i = .int .i64 k ∧ ExsIn w false none r b off k ∧ r.sz ≤ kids.sz ∧ LessP q m ∧ Below w.heap.size w wr) (fun _ i _ => len - (intOf i).toNat)
  case atStart => exact ⟨0, q, kids, rfl, by have := hLen.out; omega, rfl, hI.out, Nat.le_refl _, LessP.refl _, Below.refl _ _⟩
  case round =>
   clear hI
   obtain ⟨k, m, r, rfl, hk, rfl, hr, hz, hm, hb⟩ := hrel
   have hB := hid hb
   have hM := hid hm
   cases r with
   | nil =>
    simp only [Exs.len, Nat.add_zero] at hk
    subst k
    have hmb := hm.1
    clear hr hz hm hb
    go_wp2_with fail
    go_ret
    exact ⟨⟨m, rfl, hM.out⟩, hB.out⟩
   | cons h' kids' rest =>
    simp only [Exs.len, Exs.sz] at hk hz
    have hkk : k < len := by omega
    by_cases hpos : 0 < m
    ·obtain ⟨⟨⟨t', y0, _⟩, y1, y2, y3, y4, y5⟩, ⟨u, y6, hu⟩, hR⟩ := hr.cons
     have x6 := cell_on y6 hb
     have hka2 : ka = some ⟨b, off, none⟩ := by rcases hka with q | q; (· omega); (· exact q.1)
     subst hka2
     obtain ⟨ua, uc, rfl⟩ := hu.shape'
     have hq := hQ.out
     have hm1 := hm.1
     have hCall := hid (IH.out kids' (m - 1) (.slice ua kids'.len uc) wr (by have := hS.out; omega) (by have := hS.out; omega) (by omega) (by omega) (hu.mono hb))
     have hRR := hid (And.intro hR hz)
     have hpos2 : ¬ m ≤ 0 := by omega
     have hwr : IntKind.i64.wrap (m - 1) = m - 1 := IntWalk.i64_in _ (by omega)
     have hwr2 : wrap64 (m - 1) = m - 1 := by simp only [wrap64]; omega
     clear hka hr hu hR hz hb y0 y1 y2 y3 y4 y5 y6 hm hq
     go_wp2_with fail
     refine hCall.out.mono ?_
     rintro e w2 ⟨⟨m2, rfl, hm2⟩, hb2⟩
     have hB2 := hid (hB.out.trans (hb2.mono hB.out.size))
     have hL2 := hid (hM.out.trans (LessP.trans (show LessP m (m - 1) from ⟨by omega, by omega⟩) hm2))
     clear hb2 hCall x6 hm2
     go_wp2_with fail
     go_roundw
     case rel => exact ⟨k + 1, m2, rest, rfl, by omega, by go_num, hRR.out.1, by have := hRR.out.2; omega, hL2.out, hB2.out⟩
     case measure => simp [intOf]; omega
    ·clear hr hz hm hb
     go_wp2_with fail
     go_ret
     exact ⟨⟨m, rfl, hM.out⟩, hB.out⟩
def H33 (n : Nat) : Prop := ∀ (l : Sts) (q : Int) (v : Value) (w : World), l.sz < n → l.sz ≤ 100000000 → -1000000000 ≤ q → q ≤ 1000000000 → SlS w false none l v →
 Calls Tryz.prog 33 #[v, .int .i64 q] w fun e w' => (∃ m, e = .returned (.int .i64 m) ∧ LessP q m) ∧ Below w.heap.size w w'
theorem fewer33 : ∀ n, H33 n := by
 intro n
 induction n with
 | zero => intro l q v w hn; omega
 | succ n ih =>
  have IH := hid ih
  clear ih
  intro l q v w hn hs hq1 hq2 hv
  obtain ⟨ka, b, off, c, rfl, hka, hin⟩ := hv
  have hl := l.len_le
  have hS := hid (And.intro hn hs)
  have hQ := hid (And.intro hq1 hq2)
  have hI := hid hin
  have hkb : l.len ≤ 100000000 := by omega
  obtain ⟨len, hlen⟩ : ∃ m, m = l.len := ⟨_, rfl⟩
  rw [← hlen] at hka hl hkb ⊢
  have hLen := hid hlen
  clear hn hs hin hlen hl hq1 hq2
  go_enter Tryz.func33, Tryz.ntmps33
  go_wp2_with fail
  go_loopw [1, 5] (fun z i wr => ∃ (k : Nat) (m : Int) (r : Sts), z = .int .i64 m ∧ k + r.len = len ∧ i = .int .i64 k ∧ StsIn w false none r b off k ∧ r.sz ≤ l.sz ∧ LessP q m ∧ Below w.heap.size w wr) (fun _ i _ => len - (intOf i).toNat)
  case atStart => exact ⟨0, q, l, rfl, by have := hLen.out; omega, rfl, hI.out, Nat.le_refl _, LessP.refl _, Below.refl _ _⟩
  case round =>
   clear hI
   obtain ⟨k, m, r, rfl, hk, rfl, hr, hz, hm, hb⟩ := hrel
   have hB := hid hb
   have hM := hid hm
   cases r with
   | nil =>
    simp only [Sts.len, Nat.add_zero] at hk
    subst k
    have hmb := hm.1
    clear hr hz hm hb
    go_wp2_with fail
    go_ret
    exact ⟨⟨m, rfl, hM.out⟩, hB.out⟩
   | cons h' x' b' e' rest =>
    simp only [Sts.len, Sts.sz] at hk hz
    have hkk : k < len := by omega
    by_cases hpos : 0 < m
    ·obtain ⟨-, ⟨u5, y5, hu5⟩, ⟨u6, y6, hu6⟩, ⟨u7, y7, hu7⟩, hR⟩ := hr.cons
     have x5 := cell_on y5 hb
     have hka2 : ka = some ⟨b, off, none⟩ := by rcases hka with q | q; (· omega); (· exact q.1)
     subst hka2
     obtain ⟨a5, c5, rfl⟩ := hu5.shape'
     obtain ⟨a6, c6, rfl⟩ := hu6.shape'
     obtain ⟨a7, c7, rfl⟩ := hu7.shape'
     have hq := hQ.out
     have hm1 := hm.1
     have hCall := hid (less62 (x'.sz + 1) x' (m - 1) (.slice a5 x'.len c5) wr (by omega) (by have := hS.out; omega) (by omega) (by omega) (hu5.mono hb))
     have H6 := hid hu6
     have H7 := hid hu7
     have Y6 := hid y6
     have Y7 := hid y7
     have hRR := hid (And.intro hR hz)
     have hwr : IntKind.i64.wrap (m - 1) = m - 1 := IntWalk.i64_in _ (by omega)
     have hwr2 : wrap64 (m - 1) = m - 1 := by simp only [wrap64]; omega
     clear hka hr hu5 hu6 hu7 hR hz hb y5 y6 y7 hm hq
     go_wp2_with fail
     refine hCall.out.mono ?_
     rintro e w2 ⟨⟨m2, rfl, hm2⟩, hb2⟩
     have hB2 := hid (hB.out.trans (hb2.mono hB.out.size))
     have hL2 := hid (hM.out.trans (LessP.trans (show LessP m (m - 1) from ⟨by omega, by omega⟩) hm2))
     have x6 := cell_on Y6.out hB2.out
     have hc6 := hid (IH.out b' m2 (.slice a6 b'.len c6) w2 (by have := hS.out; have := hRR.out.2; omega) (by have := hS.out; have := hRR.out.2; omega) (by have h9 := hL2.out; have h8 := hQ.out; unfold LessP at h9; omega) (by have := hL2.out.1; have := hQ.out; omega) (H6.out.mono hB2.out))
     clear hb2 hCall x5 hm2
     go_wp2_with fail
     refine hc6.out.mono ?_
     rintro e w3 ⟨⟨m3, rfl, hm3⟩, hb3⟩
     have hB3 := hid (hB2.out.trans (hb3.mono hB2.out.size))
     have hL3 := hid (hL2.out.trans hm3)
     have x7 := cell_on Y7.out hB3.out
     have hc7 := hid (IH.out e' m3 (.slice a7 e'.len c7) w3 (by have := hS.out; have := hRR.out.2; omega) (by have := hS.out; have := hRR.out.2; omega) (by have h9 := hL3.out; have h8 := hQ.out; unfold LessP at h9; omega) (by have := hL3.out.1; have := hQ.out; omega) (H7.out.mono hB3.out))
     clear hb3 hc6 x6 hm3
     go_wp2_with fail
     refine hc7.out.mono ?_
     rintro e w4 ⟨⟨m4, rfl, hm4⟩, hb4⟩
     have hB4 := hid (hB3.out.trans (hb4.mono hB3.out.size))
     have hL4 := hid (hL3.out.trans hm4)
     clear hb4 hc7 x7 hm4
     go_wp2_with fail
     go_roundw
     case rel => exact ⟨k + 1, m4, rest, rfl, by omega, by go_num, hRR.out.1, by have := hRR.out.2; omega, hL4.out, hB4.out⟩
     case measure => simp [intOf]; omega
    ·clear hr hz hm hb
     go_wp2_with fail
     go_ret
     exact ⟨⟨m, rfl, hM.out⟩, hB.out⟩
end
section
open Go.Shelf
def IsB (e : Ending) : Prop := ∃ b, e = .returned (.bool b)
theorem isB (b : Bool) : IsB (.returned (.bool b)) := ⟨b, rfl⟩
theorem large9 (u : UT) (v : Value) (w : World) (ok : u.Ok) (hv : UIn w false none u v) :
  Calls Tryz.prog 9 #[v] w fun e w' => IsB e ∧ Below w.heap.size w w' := by
 obtain ⟨vg, vh, vf, rfl, hg, hh, hf⟩ := hv
 obtain ⟨ga, gb, go, gc, rfl, hga, hgi⟩ := SlR.open hg
 obtain ⟨ha, hbk, ho, hc, rfl, hha, hhi⟩ := SlR.open hh
 obtain ⟨fa, fb, fo, fc, rfl, hfa, hfi⟩ := SlR.open hf
 have hG := hid hgi
 have hH := hid hhi
 have hF := hid hfi
 have OK := hid ok
 have g1 := ok.g
 have g2 := ok.h
 have g3 := ok.f
 obtain ⟨mg, hmg⟩ : ∃ m, m = u.gs.length := ⟨_, rfl⟩
 obtain ⟨mh, hmh⟩ : ∃ m, m = u.hs.length := ⟨_, rfl⟩
 obtain ⟨mf, hmf⟩ : ∃ m, m = u.fs.length := ⟨_, rfl⟩
 rw [← hmg] at hga g1 ⊢
 rw [← hmh] at hha g2 ⊢
 rw [← hmf] at hfa g3 ⊢
 have hMG := hid hmg
 have hMH := hid hmh
 have hMF := hid hmf
 clear hg hh hf hgi hhi hfi ok hmg hmh hmf
 have hX0 := hid (SB1.new (Below.refl w.heap.size w) #[.slice ga mg gc, .slice ha mh hc, .slice fa mf fc] 26)
 clear hG hH
 go_enter Tryz.func9, Tryz.ntmps9
 go_wp2_with fail
 go_loopw [3, 4] (fun s i wr => ∃ (k : Nat) (m : Int), s = .int .i64 m ∧ -100000000 ≤ m ∧ m ≤ 20000 ∧ k ≤ mf ∧ i = .int .i64 k ∧ SB1 w w.heap.size #[.slice ga mg gc, .slice ha mh hc, .slice fa mf fc] 26 wr) (fun _ i _ => mf - (intOf i).toNat)
 case atStart => exact ⟨0, 20000, rfl, by omega, by omega, Nat.zero_le _, rfl, hX0.out⟩
 case round =>
  clear hX0
  obtain ⟨k, m, rfl, hm1, hm2, hk, rfl, hX⟩ := hrel
  have hX1 := hid hX
  have hb := hid hX.below
  have p0 := hX.box.cell 0
  have p1 := hX.box.cell 1
  have p2 := hX.box.cell 2
  simp at p0 p1 p2
  clear hX
  by_cases hlt : k < mf
  ·by_cases hpos : 0 < m
   ·have hlt' : k < u.fs.length := by have := hMF.out; omega
    obtain ⟨-, -, ⟨pv, y2, hpv⟩, -, -, ⟨bv, y5, hbv⟩⟩ := hF.out k hlt'
    have hbl := hid (OK.out.fb _ (List.getElem_mem hlt'))
    have hpl := OK.out.fp _ (List.getElem_mem hlt')
    have hka2 : fa = some ⟨fb, fo, none⟩ := by rcases hfa with q | q; (· omega); (· exact q)
    subst hka2
    generalize u.fs[k]'hlt' = a at *
    obtain ⟨at0, nm, ps, ty, op, bd⟩ := a
    obtain ⟨ba, bc, rfl⟩ := hbv.shape'
    obtain ⟨pa, pc, rfl⟩ := hpv.shape'
    simp only [] at y5 y2 hpl hpv hbv
    have HBL := hid (show bd.sz ≤ 100000000 from hbl.out)
    have HBV := hid hbv
    have Y5 := hid y5
    have Y2 := hid y2
    have hwr : IntKind.i64.wrap (m - ps.length) = m - ps.length := IntWalk.i64_in _ (by omega)
    have hwr2 : wrap64 (m - ps.length) = m - ps.length := by simp only [wrap64]; omega
    clear hfa y5 y2 hbv hpv hbl p0 p1
    go_wp2_with fail
    have hX1d := hid (hX1.out.on (Below.refl _ _).drew)
    refine wp_region_held_drew (S := (fun w9 => SB1 w w.heap.size #[.slice ga mg gc, .slice ha mh hc, .slice (some ⟨fb, fo, none⟩) mf fc] 26 w9)) (by kernel_rfl) hX1d.out (fun hHeld => ?_)
    generalize wr.drew = w3 at hX1d hHeld ⊢
    clear p2
    refine tk 0 ?_ (hy := by intro w' hSw; have q2 := hSw.box.cell 2; have x5 := cell_on Y5.out hSw.below; have x2 := cell_on Y2.out hSw.below; simp at q2; go_simp; (try with_reducible rfl))
    refine tk 1 ?_ (hy := by intro w' hSw; have q2 := hSw.box.cell 2; have x5 := cell_on Y5.out hSw.below; have x2 := cell_on Y2.out hSw.below; simp at q2; go_simp; (try with_reducible rfl))
    refine tk 2 ?_ (hy := by intro w' hSw; have q2 := hSw.box.cell 2; have x5 := cell_on Y5.out hSw.below; have x2 := cell_on Y2.out hSw.below; simp at q2; go_simp; (try with_reducible rfl))
    refine tk 3 ?_ (hy := by intro w' hSw; have q2 := hSw.box.cell 2; have x5 := cell_on Y5.out hSw.below; have x2 := cell_on Y2.out hSw.below; simp at q2; go_simp; (try with_reducible rfl))
    refine tk 4 ?_ (hy := by intro w' hSw; have q2 := hSw.box.cell 2; have x5 := cell_on Y5.out hSw.below; have x2 := cell_on Y2.out hSw.below; simp at q2; go_simp; (try with_reducible rfl))
    refine tk 5 ?_ (hy := by intro w' hSw; have q2 := hSw.box.cell 2; have x5 := cell_on Y5.out hSw.below; have x2 := cell_on Y2.out hSw.below; simp at q2; go_simp; (try with_reducible rfl))
    refine tk 6 ?_ (hy := by intro w' hSw; have q2 := hSw.box.cell 2; have x5 := cell_on Y5.out hSw.below; have x2 := cell_on Y2.out hSw.below; simp at q2; go_simp; (try with_reducible rfl))
    refine tk 7 ?_ (hy := by intro w' hSw; have q2 := hSw.box.cell 2; have x5 := cell_on Y5.out hSw.below; have x2 := cell_on Y2.out hSw.below; simp at q2; go_simp; (try with_reducible rfl))
    refine tk 8 ?_ (hy := by intro w' hSw; have q2 := hSw.box.cell 2; have x5 := cell_on Y5.out hSw.below; have x2 := cell_on Y2.out hSw.below; simp at q2; go_simp; (try with_reducible rfl))
    refine tk 9 ?_ (hy := by intro w' hSw; have q2 := hSw.box.cell 2; have x5 := cell_on Y5.out hSw.below; have x2 := cell_on Y2.out hSw.below; simp at q2; go_simp; (try with_reducible rfl))
    refine tk 10 ?_ (hy := by intro w' hSw; have q2 := hSw.box.cell 2; have x5 := cell_on Y5.out hSw.below; have x2 := cell_on Y2.out hSw.below; simp at q2; go_simp; (try with_reducible rfl))
    refine tk 11 ?_ (hy := by intro w' hSw; have q2 := hSw.box.cell 2; have x5 := cell_on Y5.out hSw.below; have x2 := cell_on Y2.out hSw.below; simp at q2; go_simp; (try with_reducible rfl))
    refine tk 12 ?_ (hy := by intro w' hSw; have q2 := hSw.box.cell 2; have x5 := cell_on Y5.out hSw.below; have x2 := cell_on Y2.out hSw.below; simp at q2; go_simp; (try with_reducible rfl))
    refine tk 13 ?_ (hy := by intro w' hSw; have q2 := hSw.box.cell 2; have x5 := cell_on Y5.out hSw.below; have x2 := cell_on Y2.out hSw.below; simp at q2; go_simp; (try with_reducible rfl))
    refine tk 14 ?_ (hy := by intro w' hSw; have q2 := hSw.box.cell 2; have x5 := cell_on Y5.out hSw.below; have x2 := cell_on Y2.out hSw.below; simp at q2; go_simp; (try with_reducible rfl))
    refine tr 15 fun K hK => ?_
    go_simp
    go_at_call 33
    refine (fewer33 (bd.sz + 1) bd (m - ps.length) (.slice ba bd.len bc) _ (Nat.lt_succ_self _) HBL.out (by omega) (by omega) (HBV.out.mono hHeld.below)).mono ?_
    rintro e w2 ⟨⟨m2, rfl, hm2⟩, hb2⟩
    have hk := hHeld.on hb2
    have HX2 := hid hk
    have HM2 := hid hm2
    clear hHeld hm2 hb2
    go_wp2_with fail
    refine hK.out _ _ hk (fun hHeld => ?_)
    clear hK K hk
    try simp only [tpa, tpb, tpc, tpd, tpe]
    refine tk 16 ?_
    refine td ?_
    clear hHeld
    have hm9 := HM2.out
    unfold LessP at hm9
    go_wp2_with fail
    go_roundw
    case rel => exact ⟨k + 1, m2, rfl, by omega, by omega, by omega, by go_num, HX2.out⟩
    case measure => simp [intOf]; omega
   ·go_wp2_with fail
    go_ret
    exact ⟨isB _, hX1.out.below⟩
  ·go_wp2_with fail
   go_ret
   exact ⟨isB _, hX1.out.below⟩
end
section
open Go.Shelf
def pickV (n : Int) : Int := if n.tmod 4000 < 0 then n.tmod 4000 + 4000 else n.tmod 4000
theorem tmod_in (n : Int) : -4000 < n.tmod 4000 ∧ n.tmod 4000 < 4000 :=
 ⟨Int.lt_tmod_of_pos n (by decide), Int.tmod_lt_of_pos n (by decide)⟩
theorem pickV_in (n : Int) : 0 ≤ pickV n ∧ pickV n < 4000 := by
 have h := tmod_in n
 unfold pickV
 split <;> omega
theorem pick12 (n : Int) (w : World) : Calls Tryz.prog 12 #[.int .i64 n, .int .i64 4000] w fun e w' => e = .returned (.int .i64 (pickV n)) ∧ w' = w := by
 have h := tmod_in n
 by_cases hc : n.tmod 4000 < 0
 ·have hv : pickV n = n.tmod 4000 + 4000 := by unfold pickV; rw [if_pos hc]
  have hw : wrap64 (n.tmod 4000 + 4000) = n.tmod 4000 + 4000 := by simp only [wrap64]; omega
  rw [hv]
  go_enter Tryz.func12, Tryz.ntmps12
  go_wp2_with fail
  go_ret
  exact ⟨by first | rfl | rw [hw], rfl⟩
 ·have hv : pickV n = n.tmod 4000 := by unfold pickV; rw [if_neg hc]
  have hc2 : 0 ≤ n.tmod 4000 := by omega
  rw [hv]
  go_enter Tryz.func12, Tryz.ntmps12
  go_wp2_with fail
  go_ret
  exact ⟨rfl, rfl⟩
end
section
open Go.Shelf
def H46 (n : Nat) : Prop := ∀ (l : Exs) (v : Value) (w : World), l.sz < n → l.sz ≤ 100000000 → SlE w false none l v → Calls Tryz.prog 46 #[v] w fun e w' => e = .returned (.bool (!calmE l)) ∧ Below w.heap.size w w'
theorem calls46 : ∀ n, H46 n := by
 intro n
 induction n with
 | zero => intro l v w hn; omega
 | succ n ih =>
  have IH := hid ih
  clear ih
  intro kids v w hn hs hv
  obtain ⟨ka, b, off, c, rfl, hka, hin⟩ := hv
  have hl := kids.len_le
  have hS := hid (And.intro hn hs)
  have hI := hid hin
  have hkb : kids.len ≤ 100000000 := by omega
  obtain ⟨len, hlen⟩ : ∃ m, m = kids.len := ⟨_, rfl⟩
  obtain ⟨R, hR⟩ : ∃ m, m = calmE kids := ⟨_, rfl⟩
  rw [← hlen] at hka hl hkb ⊢
  rw [← hR]
  have hLen := hid hlen
  have HRR := hid hR
  clear hn hs hin hlen hl hR
  go_enter Tryz.func46, Tryz.ntmps46
  go_wp2_with fail
  go_loopw [2, 3] (fun z i wr => ∃ (k : Nat) (r : Exs), z = .bool false ∧ k + r.len = len ∧ i = .int .i64 k ∧ ExsIn w false none r b off k ∧ r.sz ≤ kids.sz ∧ R = calmE r ∧ Below w.heap.size w wr) (fun _ i _ => len - (intOf i).toNat)
  case atStart => exact ⟨0, kids, rfl, by have := hLen.out; omega, rfl, hI.out, Nat.le_refl _, HRR.out, Below.refl _ _⟩
  case round =>
   clear hI
   obtain ⟨k, r, rfl, hk, rfl, hr, hz, hm, hb⟩ := hrel
   have hB := hid hb
   have hM := hid hm
   cases r with
   | nil =>
    simp only [Exs.len, Nat.add_zero] at hk
    subst k
    clear hr hz hm hb
    go_wp2_with fail
    go_ret
    exact ⟨by rw [hM.out]; rfl, hB.out⟩
   | cons h' kids' rest =>
    simp only [Exs.len, Exs.sz] at hk hz
    have hkk : k < len := by omega
    obtain ⟨⟨⟨t', y0, _⟩, y1, y2, y3, y4, y5⟩, ⟨u, y6, hu⟩, hR⟩ := hr.cons
    have x1 := cell_on y1 hb
    have x6 := cell_on y6 hb
    have hka2 : ka = some ⟨b, off, none⟩ := by rcases hka with q | q; (· omega); (· exact q.1)
    subst hka2
    by_cases h5 : h'.kind = 5
    ·have hF := hid (show R = false by rw [hm]; simp [calmE, h5])
     rw [h5] at x1
     clear hka hr hu hR hz hb y0 y1 y2 y3 y4 y5 y6 hm x6
     go_wp2_with fail
     go_ret
     exact ⟨by rw [hF.out]; rfl, hB.out⟩
    ·obtain ⟨ua, uc, rfl⟩ := hu.shape'
     have hCall := hid (IH.out kids' (.slice ua kids'.len uc) wr (by have := hS.out; omega) (by have := hS.out; omega) (hu.mono hb))
     have hRR := hid (And.intro hR hz)
     have hE := hid (show R = (calmE kids' && calmE rest) by rw [hm]; simp [calmE, h5])
     clear hka hr hu hR hz hb y0 y1 y2 y3 y4 y5 y6 hm
     cases hc : calmE kids' with
     | true =>
      rw [hc] at hCall
      have hE2 := hid (show R = calmE rest by rw [hE.out, hc]; rfl)
      clear hE hc
      go_wp2_with fail
      refine hCall.out.mono ?_
      rintro e w2 ⟨rfl, hb2⟩
      have hB2 := hid (hB.out.trans (hb2.mono hB.out.size))
      clear hb2 hCall x6 x1
      go_wp2_with fail
      go_roundw
      case rel => exact ⟨k + 1, rest, rfl, by omega, by go_num, hRR.out.1, by have := hRR.out.2; omega, hE2.out, hB2.out⟩
      case measure => simp [intOf]; omega
     | false =>
      rw [hc] at hCall
      have hE2 := hid (show R = false by rw [hE.out, hc]; rfl)
      clear hE hc
      go_wp2_with fail
      refine hCall.out.mono ?_
      rintro e w2 ⟨rfl, hb2⟩
      have hB2 := hid (hB.out.trans (hb2.mono hB.out.size))
      clear hb2 hCall x6 x1
      go_wp2_with fail
      go_ret
      exact ⟨by rw [hE2.out]; rfl, hB2.out⟩
def H21c (n : Nat) : Prop := ∀ (l : Sts) (v : Value) (w : World), l.sz < n → l.sz ≤ 100000000 → SlS w false none l v → Calls Tryz.prog 21 #[v] w fun e w' => e = .returned (.bool (calmS l)) ∧ Below w.heap.size w w'
theorem calm21 : ∀ n, H21c n := by
 intro n
 induction n with
 | zero => intro l v w hn; omega
 | succ n ih =>
  have IH := hid ih
  clear ih
  intro l v w hn hs hv
  obtain ⟨ka, b, off, c, rfl, hka, hin⟩ := hv
  have hl := l.len_le
  have hS := hid (And.intro hn hs)
  have hI := hid hin
  have hkb : l.len ≤ 100000000 := by omega
  obtain ⟨len, hlen⟩ : ∃ m, m = l.len := ⟨_, rfl⟩
  obtain ⟨R, hR⟩ : ∃ m, m = calmS l := ⟨_, rfl⟩
  rw [← hlen] at hka hl hkb ⊢
  rw [← hR]
  have hLen := hid hlen
  have HRR := hid hR
  clear hn hs hin hlen hl hR
  go_enter Tryz.func21, Tryz.ntmps21
  go_wp2_with fail
  go_loopw [2, 3] (fun z i wr => ∃ (k : Nat) (r : Sts), z = .bool false ∧ k + r.len = len ∧ i = .int .i64 k ∧ StsIn w false none r b off k ∧ r.sz ≤ l.sz ∧ R = calmS r ∧ Below w.heap.size w wr) (fun _ i _ => len - (intOf i).toNat)
  case atStart => exact ⟨0, l, rfl, by have := hLen.out; omega, rfl, hI.out, Nat.le_refl _, HRR.out, Below.refl _ _⟩
  case round =>
   clear hI
   obtain ⟨k, r, rfl, hk, rfl, hr, hz, hm, hb⟩ := hrel
   have hB := hid hb
   have hM := hid hm
   cases r with
   | nil =>
    simp only [Sts.len, Nat.add_zero] at hk
    subst k
    clear hr hz hm hb
    go_wp2_with fail
    go_ret
    exact ⟨by rw [hM.out]; rfl, hB.out⟩
   | cons h' x' b' e' rest =>
    simp only [Sts.len, Sts.sz] at hk hz
    have hkk : k < len := by omega
    obtain ⟨⟨⟨t', y0, _⟩, y1, y2, y3, y4⟩, ⟨u5, y5, hu5⟩, ⟨u6, y6, hu6⟩, ⟨u7, y7, hu7⟩, hR⟩ := hr.cons
    have x1 := cell_on y1 hb
    have x5 := cell_on y5 hb
    have hka2 : ka = some ⟨b, off, none⟩ := by rcases hka with q | q; (· omega); (· exact q.1)
    subst hka2
    obtain ⟨a5, c5, rfl⟩ := hu5.shape'
    obtain ⟨a6, c6, rfl⟩ := hu6.shape'
    obtain ⟨a7, c7, rfl⟩ := hu7.shape'
    have hCall := hid (calls46 (x'.sz + 1) x' (.slice a5 x'.len c5) wr (by omega) (by have := hS.out; omega) (hu5.mono hb))
    have H6 := hid hu6
    have H7 := hid hu7
    have Y6 := hid y6
    have Y7 := hid y7
    have hRR := hid (And.intro hR hz)
    have hE := hid (show R = (h'.kind != 2 && (h'.kind != 3 && (h'.kind != 9 && (calmE x' && (calmS b' && (calmS e' && calmS rest)))))) by rw [hm]; rfl)
    clear hka hr hu5 hu6 hu7 hR hz hb y0 y1 y2 y3 y4 y5 y6 y7 hm
    by_cases h2 : h'.kind = 2
    ·have hF := hid (show R = false by rw [hE.out, h2]; simp)
     rw [h2] at x1
     clear hCall x5
     go_wp2_with fail
     go_ret
     exact ⟨by rw [hF.out]; rfl, hB.out⟩
    by_cases h3 : h'.kind = 3
    ·have hF := hid (show R = false by rw [hE.out, h3]; simp)
     rw [h3] at x1
     clear hCall x5
     go_wp2_with fail
     go_ret
     exact ⟨by rw [hF.out]; rfl, hB.out⟩
    by_cases h9 : h'.kind = 9
    ·have hF := hid (show R = false by rw [hE.out, h9]; simp)
     rw [h9] at x1
     clear hCall x5
     go_wp2_with fail
     go_ret
     exact ⟨by rw [hF.out]; rfl, hB.out⟩
    have hE := hid (show R = (calmE x' && (calmS b' && (calmS e' && calmS rest))) by rw [hE.out, (by simpa using h2 : (h'.kind != 2) = true), (by simpa using h3 : (h'.kind != 3) = true), (by simpa using h9 : (h'.kind != 9) = true)]; rfl)
    have k2 : (h'.kind == 2) = false := by simpa using h2
    have k3 : (h'.kind == 3) = false := by simpa using h3
    have k9 : (h'.kind == 9) = false := by simpa using h9
    clear h2 h3 h9
    cases hc : calmE x' with
    | false =>
     rw [hc] at hCall
     have hF := hid (show R = false by rw [hE.out, hc]; rfl)
     clear hE hc
     go_wp2_with fail
     refine hCall.out.mono ?_
     rintro e w2 ⟨rfl, hb2⟩
     have hB2 := hid (hB.out.trans (hb2.mono hB.out.size))
     clear hb2 hCall x5 x1
     go_wp2_with fail
     go_ret
     exact ⟨by rw [hF.out]; rfl, hB2.out⟩
    | true =>
     rw [hc] at hCall
     have hE := hid (show R = (calmS b' && (calmS e' && calmS rest)) by rw [hE.out, hc]; rfl)
     clear hc
     go_wp2_with fail
     refine hCall.out.mono ?_
     rintro e w2 ⟨rfl, hb2⟩
     have hB2 := hid (hB.out.trans (hb2.mono hB.out.size))
     have x6 := cell_on Y6.out hB2.out
     have hc6 := hid (IH.out b' (.slice a6 b'.len c6) w2 (by have := hS.out; have := hRR.out.2; omega) (by have := hS.out; have := hRR.out.2; omega) (H6.out.mono hB2.out))
     clear hb2 hCall x5 x1
     cases hc : calmS b' with
     | false =>
      rw [hc] at hc6
      have hF := hid (show R = false by rw [hE.out, hc]; rfl)
      clear hE hc
      go_wp2_with fail
      refine hc6.out.mono ?_
      rintro e w3 ⟨rfl, hb3⟩
      have hB3 := hid (hB2.out.trans (hb3.mono hB2.out.size))
      clear hb3 hc6 x6
      go_wp2_with fail
      go_ret
      exact ⟨by rw [hF.out]; rfl, hB3.out⟩
     | true =>
      rw [hc] at hc6
      have hE := hid (show R = (calmS e' && calmS rest) by rw [hE.out, hc]; rfl)
      clear hc
      go_wp2_with fail
      refine hc6.out.mono ?_
      rintro e w3 ⟨rfl, hb3⟩
      have hB3 := hid (hB2.out.trans (hb3.mono hB2.out.size))
      have x7 := cell_on Y7.out hB3.out
      have hc7 := hid (IH.out e' (.slice a7 e'.len c7) w3 (by have := hS.out; have := hRR.out.2; omega) (by have := hS.out; have := hRR.out.2; omega) (H7.out.mono hB3.out))
      clear hb3 hc6 x6
      cases hc : calmS e' with
      | false =>
       rw [hc] at hc7
       have hF := hid (show R = false by rw [hE.out, hc]; rfl)
       clear hE hc
       go_wp2_with fail
       refine hc7.out.mono ?_
       rintro e w4 ⟨rfl, hb4⟩
       have hB4 := hid (hB3.out.trans (hb4.mono hB3.out.size))
       clear hb4 hc7 x7
       go_wp2_with fail
       go_ret
       exact ⟨by rw [hF.out]; rfl, hB4.out⟩
      | true =>
       rw [hc] at hc7
       have hE := hid (show R = calmS rest by rw [hE.out, hc]; rfl)
       clear hc
       go_wp2_with fail
       refine hc7.out.mono ?_
       rintro e w4 ⟨rfl, hb4⟩
       have hB4 := hid (hB3.out.trans (hb4.mono hB3.out.size))
       clear hb4 hc7 x7
       go_wp2_with fail
       exact ⟨⟨k + 1, rest, rfl, by omega, by go_num, hRR.out.1, by have := hRR.out.2; omega, hE.out, hB4.out⟩, by simp only [intOf]; omega⟩
theorem sameWords44 (l : List Int) (va vb : Value) (w : World) (ha : RowA w l va) (hb : RowA w l vb) (hl : l.length ≤ 9223372036854775807) : Calls Tryz.prog 44 #[va, vb] w fun e w' => e = .returned (.bool true) ∧ Below w.heap.size w w' := by
 obtain ⟨aa, ab, ao, ac, rfl, ha2, ha3⟩ := ha
 obtain ⟨ba, bb, bo, bc, rfl, hb2, hb3⟩ := hb
 have HA := hid ha3
 have HB := hid hb3
 obtain ⟨len, hlen⟩ : ∃ m, m = l.length := ⟨_, rfl⟩
 rw [← hlen] at ha2 hb2 hl ⊢
 have hLen := hid hlen
 clear ha3 hb3 hlen
 go_enter Tryz.func44, Tryz.ntmps44
 go_wp2_with fail
 go_loopw [4, 5] (fun z i wr => ∃ (k : Nat), z = .bool false ∧ k ≤ len ∧ i = .int .i64 k ∧ Below w.heap.size w wr) (fun _ i _ => len - (intOf i).toNat)
 case atStart => exact ⟨0, rfl, Nat.zero_le _, rfl, Below.refl _ _⟩
 case round =>
  obtain ⟨k, rfl, hk, rfl, hb⟩ := hrel
  have hBB := hid hb
  by_cases hkk : k < len
  ·have hk2 : k < l.length := by have := hLen.out; omega
   have hba := Below.refl wr.heap.size wr
   have x1 : wr.drew.cell? ⟨ab, ao + k, none⟩ = some (.int .u32 l[k]) := cell_on (cell_on (HA.out k hk2) hb) hba.drew
   have x2 : wr.drew.cell? ⟨bb, bo + k, none⟩ = some (.int .u32 l[k]) := cell_on (cell_on (HB.out k hk2) hb) hba.drew
   have e1 : aa = some ⟨ab, ao, none⟩ := by rcases ha2 with q | q; (· omega); (· exact q)
   have e2 : ba = some ⟨bb, bo, none⟩ := by rcases hb2 with q | q; (· omega); (· exact q)
   subst e1
   subst e2
   have hB2 := hid (hBB.out.trans (hba.drew.mono hBB.out.size))
   generalize l[k] = x at x1 x2
   clear hb hba ha2 hb2
   go_wp2_with fail
   go_region
   go_wp2_with fail
   go_roundw
   case rel => exact ⟨k + 1, rfl, by omega, by go_num, hB2.out⟩
   case measure => simp [intOf]; omega
  ·obtain rfl : k = len := by omega
   clear hb
   go_wp2_with fail
   go_ret
   exact ⟨rfl, hBB.out⟩
end
section
open Go.Shelf
theorem add_plain0 (b o j : Nat) : (⟨b, o, none⟩ : Addr).add j = ⟨b, o + j, none⟩ := by
 unfold Addr.add
 split
 ·rename_i h; subst h; rfl
 ·rfl
theorem own_low {w : World} {base base' : Nat} {e : TypeId} {size k : Nat} {v : Value} {ys : List Value} (h : w.ownsRow base e size v k ys) (hb : base' ≤ base) : w.ownsRow base' e size v k ys := by
 refine ⟨h.1, ?_⟩
 rcases h.2 with q | ⟨g, cap, cur, rfl, h1, h2, h3⟩
 ·exact .inl q
 ·exact .inr ⟨g, cap, cur, rfl, Nat.le_trans hb h1, h2, h3⟩
theorem hcells_at : ∀ (hd : HD) (xs : List Value) (i : Nat) (h : i < hd.length) (h2 : i < xs.length), xs.length = hd.length → (hcells hd xs)[i * 2]? = some (.string hd[i].1) ∧ (hcells hd xs)[i * 2 + 1]? = some xs[i]
 | a :: r, x :: xs, 0, _, _, _ => ⟨rfl, rfl⟩
 | a :: r, x :: xs, i + 1, h, h2, h3 => by
  have ih := hcells_at r xs i (by simpa using h) (by simpa using h2) (by simpa using h3)
  simp only [hcells, List.getElem_cons_succ]
  rw [show (i + 1) * 2 = i * 2 + 2 by omega]
  simpa using ih
theorem held20 (B : Nat) (u : UT) (vs : VS) (cs : CSg) (pl : List (ByteArray × Int)) (hd : HD) (xs : List Value) (X vb cb pb : Nat) (vg vh vf hv : Value) (w : World) (h : WoR w B u vs cs pl hd xs X vb cb pb vg vh vf hv) (hn : hd.length ≤ 1000) (hw : Hid (∀ a ∈ hd, a.2.length ≤ 4096)) :
  Calls Tryz.prog 20 #[.pointer (some ⟨X, 0, none⟩)] w fun e w' => ∃ v ys, e = .returned v ∧ Below w.heap.size w w' ∧ HeldR w' w.heap.size hd ys v := by
 have H := hid h
 have c := hid (made41_yes X pb w (by simpa using h.box.cell 6))
 obtain ⟨ha, hc, rfl, hg⟩ := own_shape2 h.held.row
 have p5 : w.cell? ⟨X, 5, none⟩ = some (.slice ha hd.length hc) := by simpa using h.box.cell 5
 obtain ⟨n, hn2⟩ : ∃ n, n = hd.length := ⟨_, rfl⟩
 rw [← hn2] at p5 hn hg
 have HN := hid hn2
 clear h hn2
 go_enter Tryz.func20, Tryz.ntmps20
 go_wp2_with fail
 refine c.out.mono ?_
 rintro e w2 ⟨rfl, rfl⟩
 go_wp2_with fail
 go_loopw [3, 14] (fun v i wr => ∃ (k : Nat) (v0 : Value) (ys : List Value), v0 = v ∧ i = .int .i64 k ∧ k ≤ n ∧ HeldR wr w2.heap.size (hd.take k) ys v0 ∧ Below w2.heap.size w2 wr) (fun _ i _ => n - (intOf i).toNat)
 case atStart => exact ⟨0, _, [], rfl, rfl, Nat.zero_le _, ⟨rfl, World.ownsRow_nil _ _ _ _, fun i h => by simp at h, fun i h => by simp at h, by simp⟩, Below.refl _ _⟩
 case round =>
  obtain ⟨k, v0, ys, rfl, rfl, hk, hR, hB⟩ := hrel
  have HR := hid hR
  have HB := hid hB
  by_cases hlt : k < n
  ·have hk1 : k < hd.length := by have := HN.out; omega
   have hk2 : k < xs.length := by have := H.out.held.len; omega
   have hg2 : ∃ g, ha = some ⟨g, 0, none⟩ := by rcases hg with q | q; (· omega); (· exact q)
   obtain ⟨g, rfl⟩ := hg2
   obtain ⟨e0, e1⟩ := hcells_at hd xs k hk1 hk2 H.out.held.len
   have y0 : wr.cell? ⟨g, k * 2, none⟩ = some (.string hd[k].1) := cell_on (by rw [H.out.held.row.cellAt (k * 2) (by omega)]; exact e0) hB
   have y1 : wr.cell? ⟨g, k * 2 + 1, none⟩ = some xs[k] := cell_on (by rw [H.out.held.row.cellAt (k * 2 + 1) (by omega)]; exact e1) hB
   have hx := H.out.held.rows k hk2 hk1
   have hp := H.out.held.pos k hk1
   have hwk := hw.out _ (List.getElem_mem hk1)
   generalize xs[k] = x at y1 hx
   generalize hda : hd[k] = a at y0 hx hp hwk
   have HDA := hid hda
   obtain ⟨nm, ws⟩ := a
   simp only [] at y0 hx hp hwk
   obtain ⟨xa, cx, rfl, hxa⟩ := own_shape2 hx
   have hxa2 : ∃ g, xa = some ⟨g, 0, none⟩ := by rcases hxa with q | q; (· omega); (· exact q)
   obtain ⟨gx, rfl⟩ := hxa2
   obtain ⟨m, hm⟩ : ∃ m, m = ws.length := ⟨_, rfl⟩
   rw [← hm] at y1 hx hp hwk
   have HM := hid hm
   have HX := hid hx
   have HK := hid (show min k hd.length = k by omega)
   clear hR hB hx hm hda e0 e1 hxa hg
   go_wp2_with fail
   have hB5 := hid (Bx.new wr #[.string nm, .slice (some ⟨gx, 0, none⟩) m cx] 82)
   have hB5d := hid (hB5.out.on (grown_of_below (Below.refl (wr.alloc (.cells #[.string nm, .slice (some ⟨gx, 0, none⟩) m cx] 82)).heap.size (wr.alloc (.cells #[.string nm, .slice (some ⟨gx, 0, none⟩) m cx] 82))).drew) (by simp))
   have BD : Hid (Below wr.heap.size wr (wr.alloc (.cells #[.string nm, .slice (some ⟨gx, 0, none⟩) m cx] 82)).drew) := hid (by (repeat (first | exact Below.refl _ _ | refine Below.drew ?_ | refine Below.alloc ?_ (by simp <;> omega) _)))
   refine wp_region_held_drew (S := (fun w9 => Bx w9 wr.heap.size #[.string nm, .slice (some ⟨gx, 0, none⟩) m cx] 82)) (by kernel_rfl) hB5d.out (fun hHeld => ?_)
   generalize (wr.alloc (.cells #[.string nm, .slice (some ⟨gx, 0, none⟩) m cx] 82)).drew = w3 at hB5d BD hHeld ⊢
   have HR3 := hid (HR.out.mono BD.out)
   have X3 := hid (show w3.ownsRow B 52 1 (.slice (some ⟨gx, 0, none⟩) m cx) m (ws.map (Value.int .u32)) from ownsRow_at (ownsRow_at HX.out HB.out) (BD.out.mono (Nat.le_refl _)))
   refine tk 0 ?_
   refine tk 1 ?_
   refine tk 2 ?_ (hy := by intro w' hSw; have q := hSw.cell 0; simp at q; go_simp; (try with_reducible rfl))
   refine tk 3 ?_
   refine tk 4 ?_ (hy := by intro w' hSw; have q := hSw.cell 1; simp at q; go_simp; (try with_reducible rfl))
   refine tr 5 fun K hK => ?_
   go_simp
   go_at_call 45
   refine (clone45 (some ⟨gx, 0, none⟩) m cx (ws.map (Value.int .u32)) w3 (by simp [HM.out]) (hid (.inr ⟨⟨gx, 0, none⟩, rfl, fun j q hj => by rw [show (⟨gx, 0, none⟩ : Addr).add j = ⟨gx, j, none⟩ by rw [add_plain0]; simp]; rw [X3.out.cellAt j (by obtain ⟨q9, -⟩ := List.getElem?_eq_some_iff.1 hj; simp at q9; have := HM.out; omega)]; exact hj⟩)) (hid (by simp [Value.oneCell'])) (by omega)).mono ?_
   rintro e w4 ⟨v4, rfl, hrow, hb4⟩
   have hk := hHeld.on (grown_of_below hb4) (by simp)
   have R4 := hid hrow
   have BD4 := hid (BD.out.trans (hb4.mono BD.out.size))
   have S4 := hid hb4.size
   have HR4 := hid (HR3.out.mono hb4)
   have H54 := hid hk
   obtain ⟨na, nc, rfl, hna⟩ := own_shape2 hrow
   have hna2 : ∃ g, na = some ⟨g, 0, none⟩ := by rcases hna with q | q; (· omega); (· exact q)
   obtain ⟨g5, rfl⟩ := hna2
   clear hHeld hrow hb4 hna
   go_wp2_with fail
   refine hK.out _ _ hk (fun hHeld => ?_)
   clear hK K hk
   try simp only [tpa, tpb, tpc, tpd, tpe]
   refine tk 6 ?_
   refine tr 7 fun K hK => ?_
   go_simp
   refine hK.out _ _ (H54.out.al _) (fun hHeld => ?_)
   clear hK K
   try simp only [tpa, tpb, tpc, tpd, tpe]
   refine tr 8 fun K hK => ?_
   refine step_append_str rfl _ _ 61 rfl w2.heap.size 82 82 (.agg #[.string ⟨#[]⟩, .slice none 0 0]) 2 40 1 Tryz.underlying61 (by kernel_rfl) rfl (by decide) v0 k (hcells (hd.take k) ys) [.string nm, .slice (some ⟨g5, 0, none⟩) m nc] (0, 0) (by have := HR4.out.row; simpa [List.length_take, HK.out] using this) rfl (by simp [Value.oneCell']) (by unfold maxLen; omega) (by omega) (by have := BD4.out.size; have := HB.out.size; omega) rfl rfl ?_
   intro v' w5 hA
   have FN := hid hA
   have H5 := hid ((H54.out).on hA.grown (fun e => by have := (HR.out.row.lt _ e.symm).2; omega))
   clear hA
   refine hK.out _ _ H5.out (fun hHeld => ?_)
   clear hK K
   try simp only [tpa, tpb, tpc, tpd, tpe]
   refine tk 9 ?_
   refine td ?_
   clear hHeld
   have NEW := hid (HR4.out.add (own_low (base' := w2.heap.size) (by have h9 := R4.out; rw [HM.out] at h9; exact h9) (by have q1 := BD.out.size; have q2 := HB.out.size; omega)) (by have := HM.out; omega) (fun y hy e => by obtain ⟨i, hi, rfl⟩ := List.getElem_of_mem hy; have q1 := HR3.out.rows i hi (by have := HR3.out.len; omega); have q2 := (q1.lt g5 e).2; have q3 := (R4.out.lt g5 rfl).1; omega) (by have := FN.out; simpa [List.length_take, HK.out, HM.out] using this))
   have HT := hid (show hd.take k ++ [(nm, ws)] = hd.take (k + 1) by rw [← HDA.out]; exact (List.take_append_getElem hk1))
   rw [HT.out] at NEW
   have BD5 := hid (HB.out.trans ((BD4.out.mono (Nat.le_refl _)).mono HB.out.size))
   have BD6 := hid (BD5.out.grown FN.out.grown BD5.out.size (fun q e => (HR4.out.row.lt q e).1))
   go_wp2_with fail
   go_roundw
   case rel => exact ⟨k + 1, _, _, rfl, by go_num, by omega, NEW.out, BD6.out⟩
   case measure => simp [intOf]; omega
  ·obtain rfl : k = n := by omega
   rw [HN.out, List.take_length] at HR
   clear hR hB
   go_wp2_with fail
   go_ret
   exact ⟨_, _, rfl, HB.out, HR.out⟩
end
section
open Go.Shelf
def EvI (w : World) (e : Ev) (b q : Nat) : Prop :=
 ∃ va, w.cell? ⟨b, q, none⟩ = some (.int .u32 0) ∧ w.cell? ⟨b, q + 1, none⟩ = some (.int .u32 e.number) ∧ w.cell? ⟨b, q + 2, none⟩ = some va ∧ w.cell? ⟨b, q + 3, none⟩ = some (.int .u32 e.value) ∧ RowA w e.args va
def EvC (w : World) (evs : List Ev) (v : Value) : Prop := ∃ a b o c, v = .slice a evs.length c ∧ (evs.length = 0 ∨ a = some ⟨b, o, none⟩) ∧ ∀ i (h : i < evs.length), EvI w evs[i] b (o + i * 4)
theorem EvI.below {w w' : World} {e : Ev} {b q : Nat} (h : EvI w e b q) (hb : Below w.heap.size w w') : EvI w' e b q := by
 obtain ⟨va, h0, h1, h2, h3, h4⟩ := h
 exact ⟨va, cell_on h0 hb, cell_on h1 hb, cell_on h2 hb, cell_on h3 hb, h4.below hb⟩
theorem EvC.below {w w' : World} {evs : List Ev} {v : Value} (h : EvC w evs v) (hb : Below w.heap.size w w') : EvC w' evs v := by
 obtain ⟨a, b, o, c, h1, h2, h3⟩ := h
 exact ⟨a, b, o, c, h1, h2, fun i hi => (h3 i hi).below hb⟩
theorem evcells_at : ∀ (evs : List Ev) (vas : List Value) (ats : List Nil0) (i : Nat) (h : i < evs.length) (h2 : i < vas.length), vas.length = evs.length → ats.length = evs.length →
  (evcells evs vas ats)[i * 4]? = some (.int .u32 0) ∧ (evcells evs vas ats)[i * 4 + 1]? = some (.int .u32 evs[i].number) ∧ (evcells evs vas ats)[i * 4 + 2]? = some vas[i] ∧ (evcells evs vas ats)[i * 4 + 3]? = some (.int .u32 evs[i].value)
 | a :: r, v :: vs, t :: ts, 0, _, _, _, _ => ⟨rfl, rfl, rfl, rfl⟩
 | a :: r, v :: vs, t :: ts, i + 1, h, h2, h3, h4 => by
  have ih := evcells_at r vs ts i (by simpa using h) (by simpa using h2) (by simpa using h3) (by simpa using h4)
  simp only [evcells, List.getElem_cons_succ]
  rw [show (i + 1) * 4 = i * 4 + 4 by omega]
  simpa using ih
 | _ :: _, v :: vs, [], i, h, h2, h3, h4 => by simp at h4
theorem EvR.reads {w : World} {n : Nat} {evs : List Ev} {vas : List Value} {ats : List Nil0} {ve : Value} (h : EvR w n evs vas ats ve) : EvC w evs ve := by
 have hr := h.row
 rcases h.row.2 with ⟨rfl, h0⟩ | ⟨g, cap, cur, rfl, _⟩
 ·exact ⟨none, 0, 0, 0, by rw [h0], .inl h0, fun i hi => by omega⟩
 ·refine ⟨_, g, 0, cap, rfl, .inr rfl, fun i hi => ?_⟩
  have hv : i < vas.length := by have := h.len; omega
  obtain ⟨e0, e1, e2, e3⟩ := evcells_at evs vas ats i hi hv h.len h.at_
  rw [Nat.zero_add]
  refine ⟨vas[i], ?_, ?_, ?_, ?_, RowA.of (h.args i hv hi) rfl⟩
  ·rw [hr.cellAt (i * 4) (by omega)]; exact e0
  ·rw [hr.cellAt (i * 4 + 1) (by omega)]; exact e1
  ·rw [hr.cellAt (i * 4 + 2) (by omega)]; exact e2
  ·rw [hr.cellAt (i * 4 + 3) (by omega)]; exact e3
theorem EvC.take {w : World} {evs l : List Ev} {a : Option Addr} {c : Nat} (h : EvC w (evs ++ l) (.slice a (evs ++ l).length c)) : EvC w evs (.slice a evs.length c) := by
 obtain ⟨a', b, o, c', h1, h2, h3⟩ := h
 cases h1
 refine ⟨a, b, o, c, rfl, ?_, fun i hi => ?_⟩
 ·rcases h2 with q | q
  ·left; simp at q; simp [q.1]
  ·exact .inr q
 ·have := h3 i (by simp; omega)
  rwa [List.getElem_append_left hi] at this
theorem sameEvent47 (e : Ev) (va vb : Value) (w : World) (ha : RowA w e.args va) (hb : RowA w e.args vb) (hl : e.args.length ≤ 9223372036854775807) :
  Calls Tryz.prog 47 #[.agg #[.int .u32 0, .int .u32 e.number, va, .int .u32 e.value], .agg #[.int .u32 0, .int .u32 e.number, vb, .int .u32 e.value]] w fun r w' => r = .returned (.bool true) ∧ Below w.heap.size w w' := by
 have hb0 : Below w.heap.size w ((w.alloc (.cells #[.int .u32 0, .int .u32 e.number, va, .int .u32 e.value] 127)).alloc (.cells #[.int .u32 0, .int .u32 e.number, vb, .int .u32 e.value] 127)) := by (repeat (first | exact Below.refl _ _ | refine Below.drew ?_ | refine Below.alloc ?_ (by simp <;> omega) _))
 have c := hid (sameWords44 e.args va vb _ (ha.below hb0) (hb.below hb0) hl)
 have HB := hid hb0
 obtain ⟨aa, ab, ao, ac, rfl, ha2, ha3⟩ := ha
 obtain ⟨ba, bb, bo, bc, rfl, hb2, hb3⟩ := hb
 clear ha2 ha3 hb2 hb3 hb0
 go_enter Tryz.func47, Tryz.ntmps47
 go_wp2_with fail
 refine c.out.mono ?_
 rintro r w2 ⟨rfl, hb2⟩
 have HB2 := hid (HB.out.trans (hb2.mono HB.out.size))
 clear hb2 c
 go_wp2_with fail
 go_ret
 exact ⟨rfl, HB2.out⟩
theorem sameEvents23 (evs : List Ev) (va vb : Value) (w : World) (ha : EvC w evs va) (hb : EvC w evs vb) (hl : evs.length ≤ 1000000000) (ha9 : Hid (∀ e ∈ evs, e.args.length ≤ 9223372036854775807)) : Calls Tryz.prog 23 #[va, vb] w fun e w' => e = .returned (.bool true) ∧ Below w.heap.size w w' := by
 obtain ⟨aa, ab, ao, ac, rfl, ha2, ha3⟩ := ha
 obtain ⟨ba, bb, bo, bc, rfl, hb2, hb3⟩ := hb
 have HA := hid ha3
 have HB := hid hb3
 obtain ⟨len, hlen⟩ : ∃ m, m = evs.length := ⟨_, rfl⟩
 rw [← hlen] at ha2 hb2 hl ⊢
 have hLen := hid hlen
 clear ha3 hb3 hlen
 go_enter Tryz.func23, Tryz.ntmps23
 go_wp2_with fail
 go_loopw [4, 5] (fun z i wr => ∃ (k : Nat), z = .bool false ∧ k ≤ len ∧ i = .int .i64 k ∧ Below w.heap.size w wr) (fun _ i _ => len - (intOf i).toNat)
 case atStart => exact ⟨0, rfl, Nat.zero_le _, rfl, Below.refl _ _⟩
 case round =>
  obtain ⟨k, rfl, hk, rfl, hb⟩ := hrel
  have hBB := hid hb
  by_cases hkk : k < len
  ·have hk2 : k < evs.length := by have := hLen.out; omega
   obtain ⟨v1, x0, x1, x2, x3, x4⟩ := (HA.out k hk2).below hb
   obtain ⟨v2, y0, y1, y2, y3, y4⟩ := (HB.out k hk2).below hb
   have HAL := hid (ha9.out _ (List.getElem_mem hk2))
   have e1 : aa = some ⟨ab, ao, none⟩ := by rcases ha2 with q | q; (· omega); (· exact q)
   have e2 : ba = some ⟨bb, bo, none⟩ := by rcases hb2 with q | q; (· omega); (· exact q)
   subst e1
   subst e2
   generalize evs[k] = ev at *
   have X0 := hid x0
   have X1 := hid x1
   have X2 := hid x2
   have X3 := hid x3
   have XA := hid x4
   have Y0 := hid y0
   have Y1 := hid y1
   have Y2 := hid y2
   have Y3 := hid y3
   have YA := hid y4
   clear hb ha2 hb2 x0 x1 x2 x3 x4 y0 y1 y2 y3 y4
   go_wp2_with fail
   have BD := hid (Below.refl wr.heap.size wr).drew
   refine wp_region_held_drew (S := (fun w9 => Below wr.heap.size wr w9)) (by kernel_rfl) BD.out (fun hHeld => ?_)
   generalize wr.drew = w3 at BD hHeld ⊢
   refine tk 0 ?_
   refine tk 1 ?_
   refine tk 2 ?_
   refine tk 3 ?_ (hy := by intro w' hSw; have z0 := cell_on X0.out hSw; have z1 := cell_on X1.out hSw; have z2 := cell_on X2.out hSw; have z3 := cell_on X3.out hSw; go_simp; (try with_reducible rfl))
   refine tk 4 ?_
   refine tk 5 ?_
   refine tk 6 ?_
   refine tk 7 ?_ (hy := by intro w' hSw; have z0 := cell_on Y0.out hSw; have z1 := cell_on Y1.out hSw; have z2 := cell_on Y2.out hSw; have z3 := cell_on Y3.out hSw; go_simp; (try with_reducible rfl))
   refine tr 8 fun K hK => ?_
   go_simp
   go_at_call 47
   refine (sameEvent47 ev _ _ w3 (XA.out.below BD.out) (YA.out.below BD.out) HAL.out).mono ?_
   rintro e w2 ⟨rfl, hb2⟩
   have hk := hHeld.trans (hb2.mono hHeld.size)
   have BD2 := hid hk
   clear hHeld hb2
   go_wp2_with fail
   refine hK.out _ _ hk (fun hHeld => ?_)
   clear hK K hk
   try simp only [tpa, tpb, tpc, tpd, tpe]
   refine tk 9 ?_
   refine td ?_
   clear hHeld
   go_wp2_with fail
   go_roundw
   case rel => exact ⟨k + 1, rfl, by omega, by go_num, hBB.out.trans (BD2.out.mono hBB.out.size)⟩
   case measure => simp [intOf]; omega
  ·obtain rfl : k = len := by omega
   clear hb
   go_wp2_with fail
   go_ret
   exact ⟨rfl, hBB.out⟩
theorem sameMeant18 (evs : List Ev) (va vb : Value) (en x fa st rp : Int) (w : World) (ha : EvC w evs va) (hb : EvC w evs vb) (hl : evs.length ≤ 1000000000) (ha9 : Hid (∀ e ∈ evs, e.args.length ≤ 9223372036854775807)) :
  Calls Tryz.prog 18 #[.agg #[.int .u8 en, .int .u32 x, .int .u8 fa, .int .i64 st, .int .i64 rp, va], .agg #[.int .u8 en, .int .u32 x, .int .u8 fa, .int .i64 st, .int .i64 rp, vb]] w fun e w' => e = .returned (.bool true) ∧ Below w.heap.size w w' := by
 have hb0 : Below w.heap.size w ((w.alloc (.cells #[.int .u8 en, .int .u32 x, .int .u8 fa, .int .i64 st, .int .i64 rp, va] 56)).alloc (.cells #[.int .u8 en, .int .u32 x, .int .u8 fa, .int .i64 st, .int .i64 rp, vb] 56)) := by (repeat (first | exact Below.refl _ _ | refine Below.drew ?_ | refine Below.alloc ?_ (by simp <;> omega) _))
 have c := hid (sameEvents23 evs va vb _ (ha.below hb0) (hb.below hb0) hl ha9)
 have HB := hid hb0
 obtain ⟨aa, ab, ao, ac, rfl, ha2, ha3⟩ := ha
 obtain ⟨ba, bb, bo, bc, rfl, hb2, hb3⟩ := hb
 clear ha2 ha3 hb2 hb3 hb0
 go_enter Tryz.func18, Tryz.ntmps18
 go_wp2_with fail
 refine c.out.mono ?_
 rintro r w2 ⟨rfl, hb2⟩
 have HB2 := hid (HB.out.trans (hb2.mono HB.out.size))
 clear hb2 c
 go_wp2_with fail
 go_ret
 exact ⟨rfl, HB2.out⟩
def HdI (w : World) (a : ByteArray × List Int) (b q : Nat) : Prop := ∃ va, w.cell? ⟨b, q, none⟩ = some (.string a.1) ∧ w.cell? ⟨b, q + 1, none⟩ = some va ∧ RowA w a.2 va
def HdC (w : World) (hd : HD) (v : Value) : Prop := ∃ a b o c, v = .slice a hd.length c ∧ (hd.length = 0 ∨ a = some ⟨b, o, none⟩) ∧ ∀ i (h : i < hd.length), HdI w hd[i] b (o + i * 2)
theorem HeldR.reads {w : World} {B : Nat} {hd : HD} {xs : List Value} {v : Value} (h : HeldR w B hd xs v) : HdC w hd v := by
 have hr := h.row
 rcases h.row.2 with ⟨rfl, h0⟩ | ⟨g, cap, cur, rfl, _⟩
 ·exact ⟨none, 0, 0, 0, by rw [h0], .inl h0, fun i hi => by omega⟩
 ·refine ⟨_, g, 0, cap, rfl, .inr rfl, fun i hi => ?_⟩
  have hv : i < xs.length := by have := h.len; omega
  obtain ⟨e0, e1⟩ := hcells_at hd xs i hi hv h.len
  rw [Nat.zero_add]
  refine ⟨xs[i], ?_, ?_, RowA.of (h.rows i hv hi) rfl⟩
  ·rw [hr.cellAt (i * 2) (by omega)]; exact e0
  ·rw [hr.cellAt (i * 2 + 1) (by omega)]; exact e1
theorem sameHeld19 (hd : HD) (va vb : Value) (w : World) (ha : HdC w hd va) (hb : HdC w hd vb) (hl : hd.length ≤ 1000000000) (ha9 : Hid (∀ a ∈ hd, a.2.length ≤ 1000000000)) : Calls Tryz.prog 19 #[va, vb] w fun e w' => e = .returned (.bool true) ∧ Below w.heap.size w w' := by
 obtain ⟨aa, ab, ao, ac, rfl, ha2, ha3⟩ := ha
 obtain ⟨ba, bb, bo, bc, rfl, hb2, hb3⟩ := hb
 have HA := hid ha3
 have HB := hid hb3
 obtain ⟨len, hlen⟩ : ∃ m, m = hd.length := ⟨_, rfl⟩
 rw [← hlen] at ha2 hb2 hl ⊢
 have hLen := hid hlen
 clear ha3 hb3 hlen
 go_enter Tryz.func19, Tryz.ntmps19
 go_wp2_with fail
 go_loopw [4, 5] (fun z i wr => ∃ (k : Nat), z = .bool false ∧ k ≤ len ∧ i = .int .i64 k ∧ Below w.heap.size w wr) (fun _ i _ => len - (intOf i).toNat)
 case atStart => exact ⟨0, rfl, Nat.zero_le _, rfl, Below.refl _ _⟩
 case round =>
  obtain ⟨k, rfl, hk, rfl, hb⟩ := hrel
  have hBB := hid hb
  by_cases hkk : k < len
  ·have hk2 : k < hd.length := by have := hLen.out; omega
   obtain ⟨v1, x0, x1, x4⟩ := HA.out k hk2
   obtain ⟨v2, y0, y1, y4⟩ := HB.out k hk2
   have HAL := hid (ha9.out _ (List.getElem_mem hk2))
   have e1 : aa = some ⟨ab, ao, none⟩ := by rcases ha2 with q | q; (· omega); (· exact q)
   have e2 : ba = some ⟨bb, bo, none⟩ := by rcases hb2 with q | q; (· omega); (· exact q)
   subst e1
   subst e2
   generalize hd[k] = a at *
   obtain ⟨nm, ws⟩ := a
   have X0 := hid (cell_on x0 hb)
   have X1 := hid (cell_on x1 hb)
   have XA := hid (x4.below hb)
   have Y0 := hid (cell_on y0 hb)
   have Y1 := hid (cell_on y1 hb)
   have YA := hid (y4.below hb)
   obtain ⟨v1a, v1b, v1o, v1c, rfl, -, -⟩ := x4
   obtain ⟨v2a, v2b, v2o, v2c, rfl, -, -⟩ := y4
   simp only [] at X0 X1 XA Y0 Y1 YA HAL
   clear hb ha2 hb2 x0 x1 y0 y1
   go_wp2_with fail
   have BD := hid (Below.refl wr.heap.size wr).drew
   refine wp_region_held_drew (S := (fun w9 => Below wr.heap.size wr w9)) (by kernel_rfl) BD.out (fun hHeld => ?_)
   generalize wr.drew = w3 at BD hHeld ⊢
   refine tk 0 ?_
   refine tk 1 ?_
   refine tk 2 ?_
   refine tk 3 ?_
   refine tk 4 ?_ (hy := by intro w' hSw; have z0 := cell_on X0.out hSw; go_simp; (try with_reducible rfl))
   refine tk 5 ?_
   refine tk 6 ?_
   refine tk 7 ?_
   refine tk 8 ?_
   refine tk 9 ?_ (hy := by intro w' hSw; have z0 := cell_on Y0.out hSw; go_simp; (try with_reducible rfl))
   refine tk 10 ?_
   refine tk 11 ?_
   refine tk 12 ?_
   refine tk 13 ?_
   refine tk 14 ?_
   refine tk 15 ?_
   refine tk 16 ?_ (hy := by intro w' hSw; have z0 := cell_on X1.out hSw; go_simp; (try with_reducible rfl))
   refine tk 17 ?_
   refine tk 18 ?_
   refine tk 19 ?_
   refine tk 20 ?_
   refine tk 21 ?_ (hy := by intro w' hSw; have z0 := cell_on Y1.out hSw; go_simp; (try with_reducible rfl))
   refine tr 22 fun K hK => ?_
   go_simp
   go_at_call 44
   refine (sameWords44 ws _ _ w3 (XA.out.below BD.out) (YA.out.below BD.out) (by have := HAL.out; omega)).mono ?_
   rintro e w2 ⟨rfl, hb2⟩
   have hk := hHeld.trans (hb2.mono hHeld.size)
   have BD2 := hid hk
   clear hHeld hb2
   go_wp2_with fail
   refine hK.out _ _ hk (fun hHeld => ?_)
   clear hK K hk
   try simp only [tpa, tpb, tpc, tpd, tpe]
   refine tk 23 ?_
   refine tk 24 ?_
   refine td ?_
   clear hHeld
   go_wp2_with fail
   go_roundw
   case rel => exact ⟨k + 1, rfl, by omega, by go_num, hBB.out.trans (BD2.out.mono hBB.out.size)⟩
   case measure => simp [intOf]; omega
  ·obtain rfl : k = len := by omega
   clear hb
   go_wp2_with fail
   go_ret
   exact ⟨rfl, hBB.out⟩
end
end Go.Proofs.YtlabadkfkbenoaaGreatDoor
