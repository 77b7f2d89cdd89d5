/- Walks and plain laws, merged: FqL FgX. No condition. -/
import Derived.Test.YtlgneiaenanfaaaGreatDoorKq27
namespace Go.Proofs.YtlgneiaenanfaaaGreatDoor
open Go.RowKit
set_option linter.unusedVariables false
set_option linter.unusedSimpArgs false
set_option maxRecDepth 100000
set_option maxHeartbeats 64000000
section
set_option maxRecDepth 100000
open Go
theorem fig_same {g k : Fig} (hg : g.Ok) (hk : k.Ok) (h : g.txt = k.txt) : g.neg = k.neg ∧ g.B = k.B ∧ g.M = k.M ∧ ∀ mx, g.p mx = k.p mx := by
 obtain ⟨c, r, hN, hc1, hc2⟩ := hg.head
 obtain ⟨c', r', hN', hc1', hc2'⟩ := hk.head
 have hneg : g.neg = k.neg ∧ g.N = k.N := by
  unfold Fig.txt at h
  cases h1 : g.neg <;> cases h2 : k.neg <;> rw [h1, h2] at h
  ·exact ⟨rfl, h⟩
  ·exfalso
   simp only [Bool.false_eq_true, if_false, if_true] at h
   rw [hN] at h
   injection h with h3 _
   omega
  ·exfalso
   simp only [Bool.false_eq_true, if_false, if_true] at h
   rw [hN'] at h
   injection h with h3 _
   omega
  ·refine ⟨rfl, ?_⟩
   simp only [if_true] at h
   injection h
 obtain ⟨hn, hNN⟩ := hneg
 have key : ∀ (a b : Fig), a.Ok → b.Ok → a.hex = true → b.hex = false → a.N = b.N → False := by
  intro a b ha hb h1 h2 h3
  unfold Fig.N at h3
  rw [h1, h2] at h3
  simp only [if_true, Bool.false_eq_true, if_false] at h3
  obtain ⟨x, I, hI⟩ := List.exists_cons_of_ne_nil hb.nI
  rw [hI, List.cons_append] at h3
  injection h3 with _ h4
  cases I with
  | cons y J =>
   rw [List.cons_append] at h4
   injection h4 with h5 _
   have := hb.pI y (by rw [hI]; simp)
   rw [h2] at this
   have := isD_iff.1 this
   omega
  | nil =>
   rw [List.nil_append] at h4
   unfold Fig.T Fig.U at h4
   have hm : b.m = 101 ∨ b.m = 69 := by
    rcases hb.hm with ⟨_, h⟩ | ⟨h, _⟩
    ·rw [h2] at h; cases h
    ·exact h
   cases hd : b.dot <;> rw [hd] at h4
   ·cases he : b.ex <;> rw [he] at h4
    ·simp at h4
    ·simp only [Bool.false_eq_true, if_false, if_true] at h4
     injection h4 with h5 _
     omega
   ·simp only [if_true] at h4
    injection h4 with h5 _
    omega
 have hhex : g.hex = k.hex := by
  cases h1 : g.hex <;> cases h2 : k.hex
  ·rfl
  ·exact (key k g hk hg h2 h1 hNN.symm).elim
  ·exact (key g k hg hk h1 h2 hNN).elim
  ·rfl
 have hIT : g.I ++ g.T = k.I ++ k.T := by
  unfold Fig.N at hNN
  rw [← hhex] at hNN
  cases h1 : g.hex <;> rw [h1] at hNN
  ·exact hNN
  ·simp only [if_true] at hNN
   injection hNN with _ h2
   injection h2
 have h1 := gth_fig hg
 have h2 := gth_fig hk
 rw [hIT, hhex, h2] at h1
 injection h1 with hD h1
 injection h1 with hF hU
 have hFl : g.F.length = k.F.length := by
  have z1 : g.dot = false → g.F.length = 0 := fun h => by rw [hg.zF h]; rfl
  have z2 : k.dot = false → k.F.length = 0 := fun h => by rw [hk.zF h]; rfl
  cases h3 : g.dot <;> cases h4 : k.dot <;> rw [h3, h4] at hF
  ·rw [z1 h3, z2 h4]
  ·simp at hF
  ·simp at hF
  ·simpa using hF.symm
 have hsE : g.sg = k.sg ∧ g.E = k.E := by
  unfold Fig.U at hU
  cases h3 : g.ex <;> cases h4 : k.ex <;> rw [h3, h4] at hU
  ·obtain ⟨a1, a2⟩ := hg.zE h3
   obtain ⟨b1, b2⟩ := hk.zE h4
   exact ⟨by rw [a2, b2], by rw [a1, b1]⟩
  ·simp at hU
  ·simp at hU
  ·simp only [if_true] at hU
   injection hU with _ h5
   obtain ⟨x, E, hE⟩ := List.exists_cons_of_ne_nil (hg.nE h3)
   obtain ⟨y, E', hE'⟩ := List.exists_cons_of_ne_nil (hk.nE h4)
   have p1 := isD_iff.1 (hg.pE x (by rw [hE]; simp))
   have p2 := isD_iff.1 (hk.pE y (by rw [hE']; simp))
   rcases hg.hs with s1 | s1 | s1 <;> rcases hk.hs with s2 | s2 | s2 <;> rw [s1, s2] at h5 ⊢
   ·exact ⟨rfl, h5.symm⟩
   ·rw [hE] at h5; injection h5 with h6 _; omega
   ·rw [hE] at h5; injection h5 with h6 _; omega
   ·rw [hE'] at h5; injection h5 with h6 _; omega
   ·injection h5 with _ h6; exact ⟨rfl, h6.symm⟩
   ·injection h5 with h6 _; omega
   ·rw [hE'] at h5; injection h5 with h6 _; omega
   ·injection h5 with h6 _; omega
   ·injection h5 with _ h6; exact ⟨rfl, h6.symm⟩
 refine ⟨hn, by unfold Fig.B; rw [hhex], ?_, fun mx => ?_⟩
 ·unfold Fig.M Fig.C
  rw [hhex, ← hD]
 ·unfold Fig.p Fig.q
  rw [hhex, hFl, hsE.1, hsE.2]
theorem rdP_same {F Pm INF SG : Nat} {s : ByteArray} {x y : Nat} {n m : Bool} {a b c d : Int} (h1 : RdP F Pm INF SG s x n a c) (h2 : RdP F Pm INF SG s y m b d) : x = y ∧ n = m ∧ a = b ∧ c = d := by
 rcases h1 with ⟨l1, rfl, rfl, rfl, rfl⟩ | ⟨l1, h1⟩ <;> rcases h2 with ⟨l2, rfl, rfl, rfl, rfl⟩ | ⟨l2, h2⟩
 ·exact ⟨rfl, rfl, rfl, rfl⟩
 ·omega
 ·omega
 rcases h1 with ⟨p, s1, rfl, rfl, rfl, rfl⟩ | ⟨s1, rfl, h1⟩ <;> rcases h2 with ⟨q, s2, rfl, rfl, rfl, rfl⟩ | ⟨s2, rfl, h2⟩
 ·rw [s1] at s2; injection s2 with s2; rw [s2]; exact ⟨rfl, rfl, rfl, rfl⟩
 ·rw [s1] at s2; cases s2
 ·rw [s1] at s2; cases s2
 rcases h1 with ⟨t1, rfl, rfl, rfl⟩ | ⟨t1, rfl, rfl, rfl⟩ | ⟨t1, rfl, rfl, rfl⟩ | ⟨g, hg, t1, rfl, h1⟩ <;> rcases h2 with ⟨t2, rfl, rfl, rfl⟩ | ⟨t2, rfl, rfl, rfl⟩ | ⟨t2, rfl, rfl, rfl⟩ | ⟨k, hk, t2, rfl, h2⟩
 ·exact ⟨rfl, rfl, rfl, rfl⟩
 ·rw [t1] at t2; simp at t2
 ·rw [t1] at t2; simp at t2
 ·exact absurd (t2.symm.trans t1) hk.not_word.1
 ·rw [t1] at t2; simp at t2
 ·exact ⟨rfl, rfl, rfl, rfl⟩
 ·rw [t1] at t2; simp at t2
 ·exact absurd (t2.symm.trans t1) hk.not_word.2.1
 ·rw [t1] at t2; simp at t2
 ·rw [t1] at t2; simp at t2
 ·exact ⟨rfl, rfl, rfl, rfl⟩
 ·exact absurd (t2.symm.trans t1) hk.not_word.2.2
 ·exact absurd (t1.symm.trans t2) hg.not_word.1
 ·exact absurd (t1.symm.trans t2) hg.not_word.2.1
 ·exact absurd (t1.symm.trans t2) hg.not_word.2.2
 ·obtain ⟨e1, e2, e3, e4⟩ := fig_same hg hk (t1.symm.trans t2)
  rw [e2, e3, e4 1000000, e1] at h1
  rcases h1 with ⟨u1, rfl, rfl⟩ | ⟨u1, rfl, rfl⟩ <;> rcases h2 with ⟨u2, rfl, rfl⟩ | ⟨u2, rfl, rfl⟩
  ·exact ⟨rfl, rfl, rfl, rfl⟩
  ·omega
  ·omega
  ·exact ⟨rfl, rfl, rfl, rfl⟩
end
section
set_option maxRecDepth 100000
open Go
theorem cv_inf (w : World) : (convert 22 61 (.float .f64 9218868437227405312)).run Tryz.prog w = .ok (.float .f32 2139095040) w := run_convert_float_float w 22 61 .f64 .f32 _ _ (by kernel_rfl) (by kernel_rfl) (by kernel_rfl)
theorem cv_minf (w : World) : (convert 22 61 (.float .f64 18442240474082181120)).run Tryz.prog w = .ok (.float .f32 (2139095040 + 2147483648)) w := run_convert_float_float w 22 61 .f64 .f32 _ _ (by kernel_rfl) (by kernel_rfl) (by kernel_rfl)
theorem read_nan (b : Nat) (h : 2139095040 < b % 2147483648) : FloatKind.f32.format.order b b = none := by
 show Ieee.Datum.order (Ieee.Format.read Ieee.single b) (Ieee.Format.read Ieee.single b) = none
 have e : Ieee.Format.read Ieee.single b = .nan (b / 2147483648 % 2 == 1) (b % 2147483648 - 2139095040) := by
  unfold Ieee.Format.read
  have h1 : Ieee.Format.signWeight Ieee.single = 2147483648 := by decide
  have h2 : Ieee.Format.binade Ieee.single = 8388608 := by decide
  have h3 : Ieee.Format.infRung Ieee.single = 2139095040 := by decide
  rw [h1, h2, h3]
  simp only []
  rw [if_neg (by omega), if_neg (by omega), if_neg (by omega)]
 rw [e]
 rfl
theorem cut_nan (x t : Nat) : FloatKind.f32.format.order ((Question.nanConv FloatKind.f32 x).cut t) ((Question.nanConv FloatKind.f32 x).cut t) = none := by
 apply read_nan
 show 2139095040 < (t % 2 * 2147483648 + 2139095040 + 1 + t / 2 % 8388607) % 2147483648
 have h1 : t % 2 < 2 := Nat.mod_lt _ (by omega)
 have h2 : t / 2 % 8388607 < 8388607 := Nat.mod_lt _ (by omega)
 generalize t % 2 = p at h1 ⊢
 generalize t / 2 % 8388607 = q at h2 ⊢
 omega
theorem cv_nan (w : World) : ∃ Y w', (convert 22 61 (.float .f64 9221120237041090561)).run Tryz.prog w = .ok (.float .f32 Y) w' ∧ FloatKind.f32.format.order Y Y = none ∧ Below w.heap.size w w' := by
 refine ⟨(Question.nanConv FloatKind.f32 9221120237041090561).cut (w.tape w.drawn (Question.nanConv FloatKind.f32 9221120237041090561)), w.drew, ?_, cut_nan _ _, (Below.refl _ _).drew⟩
 have hf : (Question.nanConv FloatKind.f32 9221120237041090561).forced = false := rfl
 have hd : FloatKind.f64.decode 9221120237041090561 = .nan false 2251799813685249 := by kernel_rfl
 simp [convert, run_underlying (show Tryz.prog.underlying 22 = some (.float .f64) by kernel_rfl), run_underlying (show Tryz.prog.underlying 61 = some (.float .f32) by kernel_rfl), Conv.floatToFloat, hd, hf]
def ReE32 (s : ByteArray) (w : World) (e : Ending) (w' : World) : Prop := Below w.heap.size w w' ∧ ∃ (X x : Nat) (nan : Bool) (at_ en : Int), e = .returned (.tuple #[.float .f32 X, .int .i64 at_, .int .i64 en]) ∧ RdP 23 149 2139095040 2147483648 s x nan at_ en ∧ (nan = false → X = x) ∧ (nan = true → FloatKind.f32.format.order X X = none)
theorem read36 (s : ByteArray) (w : World) (hT : Te w) : Calls Tryz.prog 36 #[.string s] w (ReE32 s w) := by
 by_cases hlong : 64 < s.size
 ·have hR := hid (show RdP 23 149 2139095040 2147483648 s 0 false 64 42 from .inl ⟨hlong, rfl, rfl, rfl, rfl⟩)
  clear hT
  go_enter Tryz.func36, Tryz.ntmps36
  go_wp2_with fail
  go_ret3
  exact ⟨Below.refl _ _, 0, 0, false, _, _, rfl, hR.out, fun _ => rfl, (fun h => by cases h)⟩
 have hs : s.size ≤ 64 := by omega
 have hsc := scan61 s hs w
 rw [scan_same] at hsc
 cases ho : scanR (bI s) with
 | some a =>
  have hR := hid (show RdP 23 149 2139095040 2147483648 s 0 false a 40 from .inr ⟨hs, .inl ⟨a, ho, rfl, rfl, rfl, rfl⟩⟩)
  rw [ho, show scV (some a) = ((a : Int), false) from rfl] at hsc
  replace hsc := hid hsc
  clear hT ho
  go_enter Tryz.func36, Tryz.ntmps36
  go_wp2_with (go_at_call 61; refine hsc.out.mono ?_; rintro e w' ⟨rfl, rfl⟩)
  go_ret3
  exact ⟨Below.refl _ _, 0, 0, false, _, _, rfl, hR.out, fun _ => rfl, (fun h => by cases h)⟩
 | none =>
  rw [ho, show scV none = (0, true) from rfl] at hsc
  replace hsc := hid hsc
  rcases scan_fig ho with ht | ht | ht | ⟨g, hg, ht⟩
  ·have hR := hid (show RdP 23 149 2139095040 2147483648 s (2139095040 + 2147483648) false 0 0 from .inr ⟨hs, .inr ⟨ho, rfl, .inr (.inr (.inl ⟨ht, rfl, rfl, rfl⟩))⟩⟩)
   have e1 : (s.toList == [110, 97, 110]) = false := str_no (by rw [ht]; decide)
   have e2 : (s.toList == [105, 110, 102]) = false := str_no (by rw [ht]; decide)
   have e3 : (s.toList == [45, 105, 110, 102]) = true := str_yes (by rw [ht]; rfl)
   clear hT ho ht
   go_enter Tryz.func36, Tryz.ntmps36
   go_wp2_with (first | (go_at_call 61; refine hsc.out.mono ?_; rintro e w' ⟨rfl, rfl⟩) | (go_at_call 63; refine (inf63m _).mono ?_; rintro e w' ⟨rfl, rfl⟩) | rw [cv_minf])
   go_ret3
   exact ⟨Below.refl _ _, _, _, false, _, _, rfl, hR.out, fun _ => rfl, (fun h => by cases h)⟩
  ·have hR := hid (show RdP 23 149 2139095040 2147483648 s 2139095040 false 0 0 from .inr ⟨hs, .inr ⟨ho, rfl, .inr (.inl ⟨ht, rfl, rfl, rfl⟩)⟩⟩)
   have e1 : (s.toList == [110, 97, 110]) = false := str_no (by rw [ht]; decide)
   have e2 : (s.toList == [105, 110, 102]) = true := str_yes (by rw [ht]; rfl)
   clear hT ho ht
   go_enter Tryz.func36, Tryz.ntmps36
   go_wp2_with (first | (go_at_call 61; refine hsc.out.mono ?_; rintro e w' ⟨rfl, rfl⟩) | (go_at_call 63; refine (inf63p _).mono ?_; rintro e w' ⟨rfl, rfl⟩) | rw [cv_inf])
   go_ret3
   exact ⟨Below.refl _ _, _, _, false, _, _, rfl, hR.out, fun _ => rfl, (fun h => by cases h)⟩
  ·have hR := hid (show RdP 23 149 2139095040 2147483648 s 0 true 0 0 from .inr ⟨hs, .inr ⟨ho, rfl, .inl ⟨ht, rfl, rfl, rfl⟩⟩⟩)
   have e1 : (s.toList == [110, 97, 110]) = true := str_yes (by rw [ht]; rfl)
   clear hT ho ht
   obtain ⟨Y, w9, hcv, hnan, hb9⟩ := cv_nan w
   replace hnan := hid hnan
   replace hb9 := hid hb9
   go_enter Tryz.func36, Tryz.ntmps36
   go_wp2_with (first | (go_at_call 61; refine hsc.out.mono ?_; rintro e w' ⟨rfl, rfl⟩) | (go_at_call 62; refine (nan62 _).mono ?_; rintro e w' ⟨rfl, rfl⟩) | rw [hcv])
   go_ret3
   exact ⟨hb9.out, _, _, true, _, _, rfl, hR.out, (fun h => by cases h), fun _ => hnan.out⟩
  ·have hw := hg.not_word
   have e1 : (s.toList == [110, 97, 110]) = false := str_no (by rw [ht]; exact hw.1)
   have e2 : (s.toList == [105, 110, 102]) = false := str_no (by rw [ht]; exact hw.2.1)
   have e3 : (s.toList == [45, 105, 110, 102]) = false := str_no (by rw [ht]; exact hw.2.2)
   have hpf := hid (parse64_32 s hs g hg ht w hT)
   have hcut := rd_cut (F := 23) (Pm := 149) (INF := 2139095040) (K := 128) val_inf32 (by decide) (by decide) hg (by have := D_le hg ht; omega)
   have hfine := hid (show ∀ X : Nat, X = sg32 g.neg + min (rdV 23 149 g.B g.M (g.p 10000)) 2139095040 → rdV 23 149 g.B g.M (g.p 10000) < 2139095040 → RdP 23 149 2139095040 2147483648 s X false 0 0 from fun X hX hl => .inr ⟨hs, .inr ⟨ho, rfl, .inr (.inr (.inr ⟨g, hg, ht, rfl, .inr ⟨by omega, by rw [hX]; unfold sg32; split <;> omega, rfl⟩⟩))⟩⟩)
   have hbig := hid (show 2139095040 ≤ rdV 23 149 g.B g.M (g.p 10000) → RdP 23 149 2139095040 2147483648 s 0 false 0 41 from fun hl => .inr ⟨hs, .inr ⟨ho, rfl, .inr (.inr (.inr ⟨g, hg, ht, rfl, .inl ⟨by omega, rfl, rfl⟩⟩))⟩⟩)
   clear hT ho ht hw hcut
   go_enter Tryz.func36, Tryz.ntmps36
   go_wp2_with (first | (go_at_call 61; refine hsc.out.mono ?_; rintro e w' ⟨rfl, rfl⟩) | (go_at_call 72; refine (bits72 _ _).mono ?_; rintro e w' ⟨rfl, rfl⟩))
   refine hpf.out.mono ?_
   rintro e w2 ⟨hB, X, hX, ⟨hl, rfl⟩ | ⟨hl, N, rfl⟩⟩
   ·obtain ⟨Z, hZ⟩ : ∃ Z, Z = sg32 g.neg + min (rdV 23 149 g.B g.M (g.p 10000)) 2139095040 := ⟨_, rfl⟩
    rw [← hZ] at hX
    have hcv : ∀ w, (convert 22 61 (.float .f64 X)).run Tryz.prog w = .ok (.float .f32 Z) w := fun w => run_convert_float_float w 22 61 .f64 .f32 _ _ (by kernel_rfl) (by kernel_rfl) hX.2
    have hR := hid (hfine.out Z hZ hl)
    replace hZ := hid hZ
    replace hX := hid hX
    replace hl := hid hl
    replace hB := hid hB
    go_wp2_with (rw [hcv])
    go_ret3
    exact ⟨hB.out, Z, Z, false, _, _, rfl, hR.out, fun _ => rfl, (fun h => by cases h)⟩
   ·have hR := hid (hbig.out hl)
    replace hX := hid hX
    replace hl := hid hl
    replace hB := hid hB
    go_wp2_with fail
    go_ret3
    exact ⟨hB.out, 0, 0, false, _, _, rfl, hR.out, fun _ => rfl, (fun h => by cases h)⟩
theorem read13 (s : ByteArray) (w : World) (hT : Te w) : Calls Tryz.prog 13 #[.string s] w (ReE64 s w) := by
 have h := hid (read31 s w hT)
 clear hT
 go_enter Tryz.func13, Tryz.ntmps13
 go_wp2_with fail
 refine h.out.mono ?_
 rintro e w1 ⟨hB, X, x, nan, at_, en, rfl, hP, h1, h2⟩
 have hfin := hid (show ReE64 s w (.returned (.tuple #[.float .f64 X, .int .i64 at_, .int .i64 en])) w1 from ⟨hB, X, x, nan, at_, en, rfl, hP, h1, h2⟩)
 clear hB hP h1 h2
 go_wp2_with fail
 go_ret3
 exact hfin.out
theorem rdP_cases {s : ByteArray} {x : Nat} {nan : Bool} {at_ en : Int} (h : RdP 23 149 2139095040 2147483648 s x nan at_ en) : (en ≠ 0 ∧ x = 0 ∧ nan = false) ∨ (en = 0 ∧ at_ = 0 ∧ nan = true) ∨ (en = 0 ∧ at_ = 0 ∧ nan = false ∧ ∃ neg r, r ≤ 2139095040 ∧ x = Ieee.single.word neg r) := by
 rcases h with ⟨_, rfl, rfl, rfl, rfl⟩ | ⟨_, ⟨a, _, rfl, rfl, rfl, rfl⟩ | ⟨_, rfl, ⟨_, rfl, rfl, rfl⟩ | ⟨_, rfl, rfl, rfl⟩ | ⟨_, rfl, rfl, rfl⟩ | ⟨g, _, _, rfl, ⟨_, rfl, rfl⟩ | ⟨h1, rfl, rfl⟩⟩⟩⟩
 ·exact .inl ⟨by decide, rfl, rfl⟩
 ·exact .inl ⟨by decide, rfl, rfl⟩
 ·exact .inr (.inl ⟨rfl, rfl, rfl⟩)
 ·exact .inr (.inr ⟨rfl, rfl, rfl, false, 2139095040, Nat.le_refl _, by rw [word32]; rfl⟩)
 ·exact .inr (.inr ⟨rfl, rfl, rfl, true, 2139095040, Nat.le_refl _, by rw [word32]; rfl⟩)
 ·exact .inl ⟨by decide, rfl, rfl⟩
 ·exact .inr (.inr ⟨rfl, rfl, rfl, g.neg, _, Nat.le_of_lt h1, by rw [word32, Nat.add_comm]⟩)
theorem call37 (b : Nat) (w : World) : (callFunc 37 #[.float .f32 b]).run Tryz.prog w = .ok (.value (.int .u32 b)) w := by
 rw [run_callFunc_extern (e := Extern.MathFloatBits.float32bits) Tryz.func37 (by kernel_rfl) (by kernel_rfl) (by kernel_rfl) (by kernel_rfl)]
 rfl
theorem call16 (b : Nat) (w : World) : (callFunc 16 #[.float .f64 b]).run Tryz.prog w = .ok (.value (.int .u64 b)) w := by
 rw [run_callFunc_extern (e := Extern.MathFloatBits.float64bits) Tryz.func16 (by kernel_rfl) (by kernel_rfl) (by kernel_rfl) (by kernel_rfl)]
 rfl
def ReW32 (s : ByteArray) (w : World) (e : Ending) (w' : World) : Prop := Below w.heap.size w w' ∧ ∃ (y : Int) (x : Nat) (nan : Bool) (at_ en : Int), e = .returned (.tuple #[.int .u32 y, .int .i64 at_, .int .i64 en]) ∧ RdP 23 149 2139095040 2147483648 s x nan at_ en ∧ (nan = true → y = 2143289344) ∧ (nan = false → y = (x : Int)) ∧ 0 ≤ y ∧ y < 4294967296
theorem read17 (s : ByteArray) (w : World) (hT : Te w) : Calls Tryz.prog 17 #[.string s] w (ReW32 s w) := by
 have h := hid (read36 s w hT)
 clear hT
 have hk := call37
 go_enter Tryz.func17, Tryz.ntmps17
 go_wp2_with fail
 refine h.out.mono ?_
 rintro e w1 ⟨hB, X, x, nan, at_, en, rfl, hP, h1, h2⟩
 have hB' := hid hB
 have hP' := hid hP
 clear hB
 rcases rdP_cases hP with ⟨he, hx, hn⟩ | ⟨he, ha, hn⟩ | ⟨he, ha, hn, neg, r, hr, hx⟩
 ·have hne : (en == 0) = false := beq_eq_false_iff_ne.2 he
  have hne2 : (en != 0) = true := by rw [bne, hne]; rfl
  have hfin := hid (show ReW32 s w (.returned (.tuple #[.int .u32 0, .int .i64 at_, .int .i64 en])) w1 from ⟨hB'.out, 0, x, nan, at_, en, rfl, hP, (fun h => by rw [hn] at h; cases h), (fun _ => by rw [hx]; rfl), by decide, by decide⟩)
  clear hP h1 h2 he hx hn
  go_wp2_with fail
  go_ret3
  exact hfin.out
 ·subst he ha
  have ho : (FloatKind.f32.format.order X X == some Ordering.eq) = false := by rw [h2 hn]; rfl
  have ho2 : (FloatKind.f32.format.order X X != some Ordering.eq) = true := by rw [bne, ho]; rfl
  have hfin := hid (show ReW32 s w (.returned (.tuple #[.int .u32 2143289344, .int .i64 0, .int .i64 0])) w1 from ⟨hB'.out, _, x, nan, 0, 0, rfl, hP, fun _ => rfl, (fun h => by rw [hn] at h; cases h), by decide, by decide⟩)
  clear hP h1 h2 hn
  go_wp2_with fail
  go_ret3
  exact hfin.out
 ·subst he ha
  have hXx := h1 hn
  have ho : (FloatKind.f32.format.order X X == some Ordering.eq) = true := by
   rw [hXx, hx]
   have := fm_same fm32 (Nat.le_of_ble_eq_true (by kernel_rfl)) neg r r (by rw [inf32]; exact hr) (by rw [inf32]; exact hr)
   rw [decide_eq_true rfl] at this
   exact this
  have ho2 : (FloatKind.f32.format.order X X != some Ordering.eq) = false := by rw [bne, ho]; rfl
  have hxb : x < 4294967296 := by rw [hx, word32]; split <;> omega
  have hfin := hid (show ReW32 s w (.returned (.tuple #[.int .u32 (X : Int), .int .i64 0, .int .i64 0])) w1 from ⟨hB'.out, _, x, nan, 0, 0, rfl, hP, (fun h => by rw [hn] at h; cases h), (fun _ => by rw [hXx]), by omega, by omega⟩)
  clear hP h1 h2 hn hXx hx hxb hr
  go_wp2_with fail
  go_ret3
  exact hfin.out
theorem whole14 (w : World) : Calls Tryz.prog 14 #[] w fun e w' => e = .returned (.agg #[.int .i64 52, .int .i64 11, .int .i64 (-1074)]) ∧ Below w.heap.size w w' := by
 go_enter Tryz.func14, Tryz.ntmps14
 go_wp2_with fail
 refine bodyPost_ret (results_cell_row rfl _ _ w.heap.size _ _ _ _ rfl (heap_alloc_new w _) Tryz.underlying27 rfl (by kernel_rfl)) rfl ?_
 exact ⟨rfl, (Below.refl _ _).alloc (Nat.le_refl _) _⟩
theorem half18 (w : World) : Calls Tryz.prog 18 #[] w fun e w' => e = .returned (.agg #[.int .i64 23, .int .i64 8, .int .i64 (-149)]) ∧ Below w.heap.size w w' := by
 go_enter Tryz.func18, Tryz.ntmps18
 go_wp2_with fail
 refine bodyPost_ret (results_cell_row rfl _ _ w.heap.size _ _ _ _ rfl (heap_alloc_new w _) Tryz.underlying27 rfl (by kernel_rfl)) rfl ?_
 exact ⟨rfl, (Below.refl _ _).alloc (Nat.le_refl _) _⟩
theorem law3 (s : ByteArray) (w : World) (hT : Te w) : Calls Tryz.prog 3 #[.string s] w fun e w' => e = .returned (.bool true) ∧ Below w.heap.size w w' := by
 have h := hid (read13 s w hT)
 have hk := call16
 clear hT
 go_enter Tryz.func3, Tryz.ntmps3
 go_wp2_with fail
 refine h.out.mono ?_
 rintro e w1 ⟨hB, X, x, nan, at_, en, rfl, hP, h1, h2⟩
 have hB1 := hid hB
 have hP1 := hid hP
 have k1 := hid h1
 have k2 := hid h2
 clear hB hP h1 h2
 go_wp2_with fail
 refine (whole14 w1).mono ?_
 rintro e w2 ⟨rfl, hb2⟩
 have hB2 := hid (hB1.out.trans (hb2.mono hB1.out.size))
 have hz2 : w.heap.size ≤ w2.heap.size := hB2.out.size
 clear hb2
 have hB3 := hid (hB2.out.alloc hz2 (.cells #[.int .i64 52, .int .i64 11, .int .i64 (-1074)] 27))
 have hz3 : w.heap.size ≤ (w2.alloc (.cells #[.int .i64 52, .int .i64 11, .int .i64 (-1074)] 27)).heap.size := hB3.out.size
 go_wp2_with fail
 refine (ref15_64 s _).mono ?_
 rintro e w4 ⟨hb4, x', nan', at', en', rfl, hP4⟩
 obtain ⟨rfl, rfl, rfl, rfl⟩ := rdP_same hP1.out hP4
 have hB4 := hid (hB3.out.trans (hb4.mono hz3))
 clear hb4 hP4 hz3
 have e1 : (at_ == at_) = true := beq_self_eq_true _
 have e1b : (at_ != at_) = false := by rw [bne, e1]; rfl
 have e2 : (en == en) = true := beq_self_eq_true _
 have e2b : (en != en) = false := by rw [bne, e2]; rfl
 cases nan
 ·have hXx := k1.out rfl
  subst hXx
  go_wp2_with fail
  go_ret
  exact ⟨rfl, hB4.out⟩
 ·have hXx := k2.out rfl
  subst hXx
  have ho : (FloatKind.f64.format.order 9221120237041090561 9221120237041090561 == some Ordering.eq) = false := by kernel_rfl
  have ho2 : (FloatKind.f64.format.order 9221120237041090561 9221120237041090561 != some Ordering.eq) = true := by kernel_rfl
  go_wp2_with fail
  go_ret
  exact ⟨rfl, hB4.out⟩
theorem law4 (s : ByteArray) (w : World) (hT : Te w) : Calls Tryz.prog 4 #[.string s] w fun e w' => e = .returned (.bool true) ∧ Below w.heap.size w w' := by
 have h := hid (read17 s w hT)
 clear hT
 go_enter Tryz.func4, Tryz.ntmps4
 go_wp2_with fail
 refine h.out.mono ?_
 rintro e w1 ⟨hB, y, x, nan, at_, en, rfl, hP, h1, h2, hy1, hy2⟩
 have hB1 := hid hB
 have hP1 := hid hP
 have k1 := hid h1
 have k2 := hid h2
 clear hB hP h1 h2
 go_wp2_with fail
 refine (half18 w1).mono ?_
 rintro e w2 ⟨rfl, hb2⟩
 have hB2 := hid (hB1.out.trans (hb2.mono hB1.out.size))
 have hz2 : w.heap.size ≤ w2.heap.size := hB2.out.size
 clear hb2
 have hB3 := hid (hB2.out.alloc hz2 (.cells #[.int .i64 23, .int .i64 8, .int .i64 (-149)] 27))
 have hz3 : w.heap.size ≤ (w2.alloc (.cells #[.int .i64 23, .int .i64 8, .int .i64 (-149)] 27)).heap.size := hB3.out.size
 go_wp2_with fail
 refine (ref15_32 s _).mono ?_
 rintro e w4 ⟨hb4, x', nan', at', en', rfl, hP4⟩
 obtain ⟨rfl, rfl, rfl, rfl⟩ := rdP_same hP1.out hP4
 have hB4 := hid (hB3.out.trans (hb4.mono hz3))
 clear hb4 hP4 hz3
 have e1 : (at_ == at_) = true := beq_self_eq_true _
 have e2 : (en == en) = true := beq_self_eq_true _
 cases nan
 ·have hXx := k2.out rfl
  subst hXx
  have e3 : ((x : Int) == (x : Int)) = true := beq_self_eq_true _
  go_wp2_with fail
  go_ret
  exact ⟨rfl, hB4.out⟩
 ·have hXx := k1.out rfl
  subst hXx
  go_wp2_with fail
  go_ret
  exact ⟨rfl, hB4.out⟩
end
end Go.Proofs.YtlgneiaenanfaaaGreatDoor
