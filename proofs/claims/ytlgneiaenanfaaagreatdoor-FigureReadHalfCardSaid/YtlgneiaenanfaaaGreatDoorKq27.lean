/- Walks and plain laws, merged: FrM FgW. No condition. -/
import Derived.Test.YtlgneiaenanfaaaGreatDoorKq26
import Derived.Test.YtlgneiaenanfaaaGreatDoorKq20
namespace Go.Proofs.YtlgneiaenanfaaaGreatDoor
open Go.RowKit
set_option linter.unusedVariables false
set_option linter.unusedSimpArgs false
set_option maxRecDepth 100000
set_option maxHeartbeats 64000000
set_option exponentiation.threshold 70000
section
set_option maxRecDepth 100000
open Go
def RdP (F Pm INF SG : Nat) (s : ByteArray) (x : Nat) (nan : Bool) (at_ en : Int) : Prop :=
  (64 < s.size ∧ x = 0 ∧ nan = false ∧ at_ = 64 ∧ en = 42) ∨
  (s.size ≤ 64 ∧ ((∃ a : Nat, scanR (bI s) = some a ∧ x = 0 ∧ nan = false ∧ at_ = a ∧ en = 40) ∨ (scanR (bI s) = none ∧ at_ = 0 ∧
    ((bI s = [110, 97, 110] ∧ x = 0 ∧ nan = true ∧ en = 0) ∨ (bI s = [105, 110, 102] ∧ x = INF ∧ nan = false ∧ en = 0) ∨ (bI s = [45, 105, 110, 102] ∧ x = INF + SG ∧ nan = false ∧ en = 0) ∨
     (∃ g : Fig, g.Ok ∧ bI s = g.txt ∧ nan = false ∧ ((INF ≤ rdV F Pm g.B g.M (g.p 1000000) ∧ x = 0 ∧ en = 41) ∨ (rdV F Pm g.B g.M (g.p 1000000) < INF ∧ x = rdV F Pm g.B g.M (g.p 1000000) + (if g.neg then SG else 0) ∧ en = 0)))))))
def RdE (F Pm INF SG : Nat) (s : ByteArray) (w : World) (e : Ending) (w' : World) : Prop := Below w.heap.size w w' ∧ ∃ (x : Nat) (nan : Bool) (at_ en : Int), e = .returned (.tuple #[.int .u64 (x : Int), .bool nan, .int .i64 at_, .int .i64 en]) ∧ RdP F Pm INF SG s x nan at_ en
theorem Fig.Ok.p_bd {g : Fig} (hg : g.Ok) (hl : g.D.length ≤ 64) : -20000000 ≤ g.p 1000000 ∧ g.p 1000000 ≤ 20000000 := by
 have h1 := satE_lt 1000000 (by decide) g.E 0 hg.pE (by decide)
 have h2 : g.F.length ≤ 64 := by
  have : g.D.length = g.I.length + g.F.length := List.length_append
  omega
 have h3 : g.q * g.F.length ≤ 4 * 64 := Nat.mul_le_mul (by unfold Fig.q; split <;> omega) h2
 unfold Fig.p
 split <;> omega
theorem Fig.Ok.M_500 {g : Fig} (hg : g.Ok) (hl : g.D.length ≤ 64) : g.M < 10 ^ 500 := by
 refine Nat.lt_of_lt_of_le (hg.M_256 hl) ?_
 calc 2 ^ 256 ≤ 2 ^ (3 * 500) := Nat.pow_le_pow_right (by decide) (by decide)
  _ = (2 ^ 3) ^ 500 := Nat.pow_mul ..
  _ ≤ 10 ^ 500 := Nat.pow_le_pow_left (by decide) _
theorem results_tmp4 {fn : Func} {t1 t2 t3 t4 : Tmp} (h : fn.results = #[.tmp t1, .tmp t2, .tmp t3, .tmp t4]) (tmps : Array Value) (P : Program) (w : World) :
  (results fn tmps).run P w = .ok (.tuple #[tmps.getD t1 undef, tmps.getD t2 undef, tmps.getD t3 undef, tmps.getD t4 undef]) w := by
 simp [results, h]
theorem read34_64 (h : Bool) (M : Nat) (p : Int) (hM : M < 10 ^ 500) (hp : -20000000 ≤ p ∧ p ≤ 20000000) (v : Value) (w : World) (hv : Nt w v M) :
  Calls Tryz.prog 34 #[.agg #[.int .i64 52, .int .i64 11, .int .i64 (-1074)], v, .int .i64 ((if h then 2 else 10 : Nat) : Int), .int .i64 p] w (RdR (rdV 52 1074 (if h then 2 else 10) M p) 9218868437227405312 w) := by
 cases h
 ·exact read34_64_10 M p hM hp v w hv
 ·exact read34_64_2 M p hM hp v w hv
theorem ref15_64 (s : ByteArray) (w : World) : Calls Tryz.prog 15 #[.agg #[.int .i64 52, .int .i64 11, .int .i64 (-1074)], .string s] w (RdE 52 1074 9218868437227405312 9223372036854775808 s w) := by
 have hB0 := hid ((Below.refl w.heap.size w).alloc (Nat.le_refl _) (.cells #[.int .i64 52, .int .i64 11, .int .i64 (-1074)] 27))
 by_cases hlong : 64 < s.size
 ·go_enter Tryz.func15, Tryz.ntmps15
  go_wp2_with fail
  refine bodyPost_ret (results_tmp4 rfl _ _ _) rfl ⟨hB0.out, _, _, _, _, rfl, .inl ⟨hlong, rfl, rfl, rfl, rfl⟩⟩
 have hs : s.size ≤ 64 := by omega
 have hz0 : (w.alloc (.cells #[.int .i64 52, .int .i64 11, .int .i64 (-1074)] 27)).heap.size = w.heap.size + 1 := by simp
 have l0 : (w.alloc (.cells #[.int .i64 52, .int .i64 11, .int .i64 (-1074)] 27)).cell? ⟨w.heap.size, 0, none⟩ = some (.int .i64 52) := by simp
 have l1 : (w.alloc (.cells #[.int .i64 52, .int .i64 11, .int .i64 (-1074)] 27)).cell? ⟨w.heap.size, 1, none⟩ = some (.int .i64 11) := by simp
 have l2 : (w.alloc (.cells #[.int .i64 52, .int .i64 11, .int .i64 (-1074)] 27)).cell? ⟨w.heap.size, 2, none⟩ = some (.int .i64 (-1074)) := by simp
 obtain ⟨w0, hw0⟩ : ∃ w0, w0 = w.alloc (.cells #[.int .i64 52, .int .i64 11, .int .i64 (-1074)] 27) := ⟨_, rfl⟩
 rw [← hw0] at hB0 hz0 l0 l1 l2
 have hsc := hid (scan32 s hs w0)
 go_enter Tryz.func15, Tryz.ntmps15
 go_wp2_with fail
 rw [← hw0]
 have hw0' := hid hw0
 clear hw0
 refine hsc.out.mono ?_
 rintro e w1 ⟨hb1, k, m, ao, n, c, b, p, hcase⟩
 have hz1 : w.heap.size + 1 ≤ w1.heap.size := by have := hb1.size; omega
 have hz1' : w.heap.size < w1.heap.size := by omega
 have hB1 := hid (hB0.out.trans (hb1.mono (by omega)))
 obtain ⟨w2, hw2⟩ : ∃ w2, w2 = w1.alloc (.cells #[.int .i64 k, .bool m, .slice ao n c, .int .i64 b, .int .i64 p] 55) := ⟨_, rfl⟩
 have hb12 : Below w1.heap.size w1 w2 := by rw [hw2]; exact (Below.refl _ _).alloc (Nat.le_refl _) _
 have hz2 : w2.heap.size = w1.heap.size + 1 := by rw [hw2]; simp
 have r0 : w2.cell? ⟨w1.heap.size, 0, none⟩ = some (.int .i64 k) := by rw [hw2]; simp
 have r1 : w2.cell? ⟨w1.heap.size, 1, none⟩ = some (.bool m) := by rw [hw2]; simp
 have r2 : w2.cell? ⟨w1.heap.size, 2, none⟩ = some (.slice ao n c) := by rw [hw2]; simp
 have r3 : w2.cell? ⟨w1.heap.size, 3, none⟩ = some (.int .i64 b) := by rw [hw2]; simp
 have r4 : w2.cell? ⟨w1.heap.size, 4, none⟩ = some (.int .i64 p) := by rw [hw2]; simp
 have m0 := ((hb1.trans (hb12.mono hb1.size)).cell (p := ⟨w.heap.size, 0, none⟩) (show w.heap.size < w0.heap.size by omega)).trans l0
 have m1 := ((hb1.trans (hb12.mono hb1.size)).cell (p := ⟨w.heap.size, 1, none⟩) (show w.heap.size < w0.heap.size by omega)).trans l1
 have m2 := ((hb1.trans (hb12.mono hb1.size)).cell (p := ⟨w.heap.size, 2, none⟩) (show w.heap.size < w0.heap.size by omega)).trans l2
 have n0 := (hb1.cell (p := ⟨w.heap.size, 0, none⟩) (show w.heap.size < w0.heap.size by omega)).trans l0
 have n1 := (hb1.cell (p := ⟨w.heap.size, 1, none⟩) (show w.heap.size < w0.heap.size by omega)).trans l1
 have n2 := (hb1.cell (p := ⟨w.heap.size, 2, none⟩) (show w.heap.size < w0.heap.size by omega)).trans l2
 have hB2 := hid (hB1.out.trans (hb12.mono (by omega)))
 -- what stays behind a call at w2
 have hk := hid (show ∀ wx, Below w2.heap.size w2 wx → Below w.heap.size w wx ∧ w2.heap.size ≤ wx.heap.size ∧ (wx.cell? ⟨w1.heap.size, 0, none⟩ = some (.int .i64 k) ∧ wx.cell? ⟨w1.heap.size, 1, none⟩ = some (.bool m) ∧ wx.cell? ⟨w1.heap.size, 2, none⟩ = some (.slice ao n c) ∧ wx.cell? ⟨w1.heap.size, 3, none⟩ = some (.int .i64 b) ∧ wx.cell? ⟨w1.heap.size, 4, none⟩ = some (.int .i64 p)) ∧ wx.cell? ⟨w.heap.size, 0, none⟩ = some (.int .i64 52) ∧ wx.cell? ⟨w.heap.size, 1, none⟩ = some (.int .i64 11) ∧ wx.cell? ⟨w.heap.size, 2, none⟩ = some (.int .i64 (-1074)) from fun wx h =>
  ⟨hB2.out.trans (h.mono (by omega)), h.size, ⟨(h.cell (show w1.heap.size < w2.heap.size by omega)).trans r0, (h.cell (show w1.heap.size < w2.heap.size by omega)).trans r1, (h.cell (show w1.heap.size < w2.heap.size by omega)).trans r2, (h.cell (show w1.heap.size < w2.heap.size by omega)).trans r3, (h.cell (show w1.heap.size < w2.heap.size by omega)).trans r4⟩, (h.cell (show w.heap.size < w2.heap.size by omega)).trans m0, (h.cell (show w.heap.size < w2.heap.size by omega)).trans m1, (h.cell (show w.heap.size < w2.heap.size by omega)).trans m2⟩)
 replace hb1 := hid hb1
 have hb12' := hid hb12
 clear l0 l1 l2 hb12
 rcases hcase with ⟨a, hsca, rfl⟩ | ⟨hscn, rfl, hN⟩
 ·have hR := hid (show RdP 52 1074 9218868437227405312 9223372036854775808 s 0 false a 40 from .inr ⟨hs, .inl ⟨a, hsca, rfl, rfl, rfl, rfl⟩⟩)
  replace hsca := hid hsca
  go_wp2_with fail
  rw [← hw2]
  refine bodyPost_ret (results_tmp4 rfl _ _ _) rfl ⟨hB2.out, _, _, _, _, rfl, hR.out⟩
 ·have hB3 := hid (show ∀ x nan en, ((bI s = [110, 97, 110] ∧ x = 0 ∧ nan = true ∧ en = 0) ∨ (bI s = [105, 110, 102] ∧ x = 9218868437227405312 ∧ nan = false ∧ en = 0) ∨ (bI s = [45, 105, 110, 102] ∧ x = 9218868437227405312 + 9223372036854775808 ∧ nan = false ∧ en = 0) ∨ (∃ g : Fig, g.Ok ∧ bI s = g.txt ∧ nan = false ∧ ((9218868437227405312 ≤ rdV 52 1074 g.B g.M (g.p 1000000) ∧ x = 0 ∧ en = 41) ∨ (rdV 52 1074 g.B g.M (g.p 1000000) < 9218868437227405312 ∧ x = rdV 52 1074 g.B g.M (g.p 1000000) + (if g.neg then 9223372036854775808 else 0) ∧ en = 0)))) → RdP 52 1074 9218868437227405312 9223372036854775808 s x nan 0 en from fun x nan en h => .inr ⟨hs, .inr ⟨hscn, rfl, h⟩⟩)
  replace hscn := hid hscn
  rcases hN with ⟨rfl, rfl, ht⟩ | ⟨rfl, rfl, ht⟩ | ⟨rfl, ht⟩ | ⟨rfl, g, hg, ht, hm, hb, hp, hNt⟩
  ·have hR := hid (hB3.out (9218868437227405312 + 9223372036854775808) false 0 (.inr (.inr (.inl ⟨ht, rfl, rfl, rfl⟩))))
   replace ht := hid ht
   go_wp2_with fail
   rw [← hw2]
   refine (endless33_64 _).mono ?_
   rintro e w3 ⟨rfl, hb3⟩
   clear r0 r1 r2 r3 r4 m0 m1 m2
   obtain ⟨hBw3, hz3, ⟨r0, r1, r2, r3, r4⟩, m0, m1, m2⟩ := hk.out w3 hb3
   replace hb3 := hid hb3
   replace hBw3 := hid hBw3
   go_wp2_with fail
   refine (sign35_64 _).mono ?_
   rintro e w4 ⟨rfl, hb4⟩
   have hBw4 := hid (hBw3.out.trans (hb4.mono (by omega)))
   replace hb4 := hid hb4
   go_wp2_with fail
   refine bodyPost_ret (results_tmp4 rfl _ _ _) rfl ⟨hBw4.out, _, _, _, _, rfl, hR.out⟩
  ·have hR := hid (hB3.out 9218868437227405312 false 0 (.inr (.inl ⟨ht, rfl, rfl, rfl⟩)))
   replace ht := hid ht
   go_wp2_with fail
   rw [← hw2]
   refine (endless33_64 _).mono ?_
   rintro e w3 ⟨rfl, hb3⟩
   clear r0 r1 r2 r3 r4 m0 m1 m2
   obtain ⟨hBw3, hz3, ⟨r0, r1, r2, r3, r4⟩, m0, m1, m2⟩ := hk.out w3 hb3
   replace hb3 := hid hb3
   replace hBw3 := hid hBw3
   go_wp2_with fail
   refine bodyPost_ret (results_tmp4 rfl _ _ _) rfl ⟨hBw3.out, _, _, _, _, rfl, hR.out⟩
  ·have hR := hid (hB3.out 0 true 0 (.inl ⟨ht, rfl, rfl, rfl⟩))
   replace ht := hid ht
   go_wp2_with fail
   rw [← hw2]
   refine bodyPost_ret (results_tmp4 rfl _ _ _) rfl ⟨hB2.out, _, _, _, _, rfl, hR.out⟩
  ·have hD := D_le hg ht
   have hDl : g.D.length ≤ 64 := by omega
   have hpb := hg.p_bd hDl
   have hM5 := hg.M_500 hDl
   rw [← hp] at hpb
   have hpb1 := hpb.1
   have hpb2 := hpb.2
   obtain ⟨r, hr⟩ : ∃ r, r = rdV 52 1074 g.B g.M (g.p 1000000) := ⟨_, rfl⟩
   have hrd := hid (show ∀ wx, Nt wx (.slice ao n c) g.M → Calls Tryz.prog 34 #[.agg #[.int .i64 52, .int .i64 11, .int .i64 (-1074)], .slice ao n c, .int .i64 b, .int .i64 p] wx (RdR r 9218868437227405312 wx) from fun wx hx => by
    have h1 := read34_64 g.hex g.M p hM5 hpb (.slice ao n c) wx hx
    rw [hr, hb, ← hp]
    exact h1)
   have hN2 := hid (hNt.mono hb12'.out (Nat.le_refl _))
   have hRl : 9218868437227405312 ≤ r → Hid (RdP 52 1074 9218868437227405312 9223372036854775808 s 0 false 0 41) := fun h => hid (hB3.out 0 false 41 (.inr (.inr (.inr ⟨g, hg, ht, rfl, .inl ⟨by rw [← hr]; exact h, rfl, rfl⟩⟩))))
   have hRf : r < 9218868437227405312 → Hid (RdP 52 1074 9218868437227405312 9223372036854775808 s (r + (if m then 9223372036854775808 else 0)) false 0 0) := fun h => hid (hB3.out _ false 0 (.inr (.inr (.inr ⟨g, hg, ht, rfl, .inr ⟨by rw [← hr]; exact h, by rw [← hr, hm], rfl⟩⟩))))
   replace hr := hid hr
   replace hm := hid hm
   replace hb := hid hb
   replace hp := hid hp
   replace ht := hid ht
   clear hpb hM5 hNt
   replace hRl := hid hRl
   replace hRf := hid hRf
   go_wp2_with fail
   rw [← hw2]
   refine (endless33_64 _).mono ?_
   rintro e w3 ⟨rfl, hb3⟩
   clear r0 r1 r2 r3 r4 m0 m1 m2
   obtain ⟨hBw3, hz3, ⟨r0, r1, r2, r3, r4⟩, m0, m1, m2⟩ := hk.out w3 hb3
   have hN3 := hid (hN2.out.mono hb3 (Nat.le_refl _))
   have hb3' := hid hb3
   clear hb3
   replace hBw3 := hid hBw3
   go_wp2_with fail
   refine (hrd.out w3 hN3.out).mono ?_
   rintro e w4 ⟨x, rfl, hx1, hx2, hb4⟩
   have hb24 := hb3'.out.trans (hb4.mono hz3)
   clear r0 r1 r2 r3 r4 m0 m1 m2
   obtain ⟨hBw4, hz4, ⟨r0, r1, r2, r3, r4⟩, m0, m1, m2⟩ := hk.out w4 hb24
   replace hb4 := hid hb4
   replace hb24 := hid hb24
   replace hBw4 := hid hBw4
   by_cases hlt : r < 9218868437227405312
   ·have hR := hRf.out hlt
    have hdec : decide (r < 9218868437227405312) = true := decide_eq_true hlt
    rw [hdec]
    have hxr := hx1 hlt
    have hxi : (x : Int) < 9218868437227405312 := by omega
    rw [← hxr] at hR
    replace hxr := hid hxr
    clear hx1 hx2 hlt hdec
    cases m
    ·go_wp2_with fail
     refine bodyPost_ret (results_tmp4 rfl _ _ _) rfl ⟨hBw4.out, _, _, _, _, rfl, hR.out⟩
    ·have hend := hid (fun w5 (h5 : Below w4.heap.size w4 w5) => hBw4.out.trans (h5.mono (show w.heap.size ≤ w4.heap.size by omega)))
     go_wp2_with fail
     refine (sign35_64 _).mono ?_
     rintro e w5 ⟨rfl, hb5⟩
     have hBw5 := hid (hend.out w5 hb5)
     replace hb5 := hid hb5
     go_wp2_with fail
     refine bodyPost_ret (results_tmp4 rfl _ _ _) rfl ⟨hBw5.out, _, _, _, _, rfl, hR.out⟩
   ·have hR := hRl.out (by omega)
    have hdec : decide (r < 9218868437227405312) = false := decide_eq_false hlt
    rw [hdec]
    clear hx1 hx2 hlt hdec
    go_wp2_with fail
    refine bodyPost_ret (results_tmp4 rfl _ _ _) rfl ⟨hBw4.out, _, _, _, _, rfl, hR.out⟩
theorem read34_32 (h : Bool) (M : Nat) (p : Int) (hM : M < 10 ^ 500) (hp : -20000000 ≤ p ∧ p ≤ 20000000) (v : Value) (w : World) (hv : Nt w v M) :
  Calls Tryz.prog 34 #[.agg #[.int .i64 23, .int .i64 8, .int .i64 (-149)], v, .int .i64 ((if h then 2 else 10 : Nat) : Int), .int .i64 p] w (RdR (rdV 23 149 (if h then 2 else 10) M p) 2139095040 w) := by
 cases h
 ·exact read34_32_10 M p hM hp v w hv
 ·exact read34_32_2 M p hM hp v w hv
theorem ref15_32 (s : ByteArray) (w : World) : Calls Tryz.prog 15 #[.agg #[.int .i64 23, .int .i64 8, .int .i64 (-149)], .string s] w (RdE 23 149 2139095040 2147483648 s w) := by
 have hB0 := hid ((Below.refl w.heap.size w).alloc (Nat.le_refl _) (.cells #[.int .i64 23, .int .i64 8, .int .i64 (-149)] 27))
 by_cases hlong : 64 < s.size
 ·go_enter Tryz.func15, Tryz.ntmps15
  go_wp2_with fail
  refine bodyPost_ret (results_tmp4 rfl _ _ _) rfl ⟨hB0.out, _, _, _, _, rfl, .inl ⟨hlong, rfl, rfl, rfl, rfl⟩⟩
 have hs : s.size ≤ 64 := by omega
 have hz0 : (w.alloc (.cells #[.int .i64 23, .int .i64 8, .int .i64 (-149)] 27)).heap.size = w.heap.size + 1 := by simp
 have l0 : (w.alloc (.cells #[.int .i64 23, .int .i64 8, .int .i64 (-149)] 27)).cell? ⟨w.heap.size, 0, none⟩ = some (.int .i64 23) := by simp
 have l1 : (w.alloc (.cells #[.int .i64 23, .int .i64 8, .int .i64 (-149)] 27)).cell? ⟨w.heap.size, 1, none⟩ = some (.int .i64 8) := by simp
 have l2 : (w.alloc (.cells #[.int .i64 23, .int .i64 8, .int .i64 (-149)] 27)).cell? ⟨w.heap.size, 2, none⟩ = some (.int .i64 (-149)) := by simp
 obtain ⟨w0, hw0⟩ : ∃ w0, w0 = w.alloc (.cells #[.int .i64 23, .int .i64 8, .int .i64 (-149)] 27) := ⟨_, rfl⟩
 rw [← hw0] at hB0 hz0 l0 l1 l2
 have hsc := hid (scan32 s hs w0)
 go_enter Tryz.func15, Tryz.ntmps15
 go_wp2_with fail
 rw [← hw0]
 have hw0' := hid hw0
 clear hw0
 refine hsc.out.mono ?_
 rintro e w1 ⟨hb1, k, m, ao, n, c, b, p, hcase⟩
 have hz1 : w.heap.size + 1 ≤ w1.heap.size := by have := hb1.size; omega
 have hz1' : w.heap.size < w1.heap.size := by omega
 have hB1 := hid (hB0.out.trans (hb1.mono (by omega)))
 obtain ⟨w2, hw2⟩ : ∃ w2, w2 = w1.alloc (.cells #[.int .i64 k, .bool m, .slice ao n c, .int .i64 b, .int .i64 p] 55) := ⟨_, rfl⟩
 have hb12 : Below w1.heap.size w1 w2 := by rw [hw2]; exact (Below.refl _ _).alloc (Nat.le_refl _) _
 have hz2 : w2.heap.size = w1.heap.size + 1 := by rw [hw2]; simp
 have r0 : w2.cell? ⟨w1.heap.size, 0, none⟩ = some (.int .i64 k) := by rw [hw2]; simp
 have r1 : w2.cell? ⟨w1.heap.size, 1, none⟩ = some (.bool m) := by rw [hw2]; simp
 have r2 : w2.cell? ⟨w1.heap.size, 2, none⟩ = some (.slice ao n c) := by rw [hw2]; simp
 have r3 : w2.cell? ⟨w1.heap.size, 3, none⟩ = some (.int .i64 b) := by rw [hw2]; simp
 have r4 : w2.cell? ⟨w1.heap.size, 4, none⟩ = some (.int .i64 p) := by rw [hw2]; simp
 have m0 := ((hb1.trans (hb12.mono hb1.size)).cell (p := ⟨w.heap.size, 0, none⟩) (show w.heap.size < w0.heap.size by omega)).trans l0
 have m1 := ((hb1.trans (hb12.mono hb1.size)).cell (p := ⟨w.heap.size, 1, none⟩) (show w.heap.size < w0.heap.size by omega)).trans l1
 have m2 := ((hb1.trans (hb12.mono hb1.size)).cell (p := ⟨w.heap.size, 2, none⟩) (show w.heap.size < w0.heap.size by omega)).trans l2
 have n0 := (hb1.cell (p := ⟨w.heap.size, 0, none⟩) (show w.heap.size < w0.heap.size by omega)).trans l0
 have n1 := (hb1.cell (p := ⟨w.heap.size, 1, none⟩) (show w.heap.size < w0.heap.size by omega)).trans l1
 have n2 := (hb1.cell (p := ⟨w.heap.size, 2, none⟩) (show w.heap.size < w0.heap.size by omega)).trans l2
 have hB2 := hid (hB1.out.trans (hb12.mono (by omega)))
 -- what stays behind a call at w2
 have hk := hid (show ∀ wx, Below w2.heap.size w2 wx → Below w.heap.size w wx ∧ w2.heap.size ≤ wx.heap.size ∧ (wx.cell? ⟨w1.heap.size, 0, none⟩ = some (.int .i64 k) ∧ wx.cell? ⟨w1.heap.size, 1, none⟩ = some (.bool m) ∧ wx.cell? ⟨w1.heap.size, 2, none⟩ = some (.slice ao n c) ∧ wx.cell? ⟨w1.heap.size, 3, none⟩ = some (.int .i64 b) ∧ wx.cell? ⟨w1.heap.size, 4, none⟩ = some (.int .i64 p)) ∧ wx.cell? ⟨w.heap.size, 0, none⟩ = some (.int .i64 23) ∧ wx.cell? ⟨w.heap.size, 1, none⟩ = some (.int .i64 8) ∧ wx.cell? ⟨w.heap.size, 2, none⟩ = some (.int .i64 (-149)) from fun wx h =>
  ⟨hB2.out.trans (h.mono (by omega)), h.size, ⟨(h.cell (show w1.heap.size < w2.heap.size by omega)).trans r0, (h.cell (show w1.heap.size < w2.heap.size by omega)).trans r1, (h.cell (show w1.heap.size < w2.heap.size by omega)).trans r2, (h.cell (show w1.heap.size < w2.heap.size by omega)).trans r3, (h.cell (show w1.heap.size < w2.heap.size by omega)).trans r4⟩, (h.cell (show w.heap.size < w2.heap.size by omega)).trans m0, (h.cell (show w.heap.size < w2.heap.size by omega)).trans m1, (h.cell (show w.heap.size < w2.heap.size by omega)).trans m2⟩)
 replace hb1 := hid hb1
 have hb12' := hid hb12
 clear l0 l1 l2 hb12
 rcases hcase with ⟨a, hsca, rfl⟩ | ⟨hscn, rfl, hN⟩
 ·have hR := hid (show RdP 23 149 2139095040 2147483648 s 0 false a 40 from .inr ⟨hs, .inl ⟨a, hsca, rfl, rfl, rfl, rfl⟩⟩)
  replace hsca := hid hsca
  go_wp2_with fail
  rw [← hw2]
  refine bodyPost_ret (results_tmp4 rfl _ _ _) rfl ⟨hB2.out, _, _, _, _, rfl, hR.out⟩
 ·have hB3 := hid (show ∀ x nan en, ((bI s = [110, 97, 110] ∧ x = 0 ∧ nan = true ∧ en = 0) ∨ (bI s = [105, 110, 102] ∧ x = 2139095040 ∧ nan = false ∧ en = 0) ∨ (bI s = [45, 105, 110, 102] ∧ x = 2139095040 + 2147483648 ∧ nan = false ∧ en = 0) ∨ (∃ g : Fig, g.Ok ∧ bI s = g.txt ∧ nan = false ∧ ((2139095040 ≤ rdV 23 149 g.B g.M (g.p 1000000) ∧ x = 0 ∧ en = 41) ∨ (rdV 23 149 g.B g.M (g.p 1000000) < 2139095040 ∧ x = rdV 23 149 g.B g.M (g.p 1000000) + (if g.neg then 2147483648 else 0) ∧ en = 0)))) → RdP 23 149 2139095040 2147483648 s x nan 0 en from fun x nan en h => .inr ⟨hs, .inr ⟨hscn, rfl, h⟩⟩)
  replace hscn := hid hscn
  rcases hN with ⟨rfl, rfl, ht⟩ | ⟨rfl, rfl, ht⟩ | ⟨rfl, ht⟩ | ⟨rfl, g, hg, ht, hm, hb, hp, hNt⟩
  ·have hR := hid (hB3.out (2139095040 + 2147483648) false 0 (.inr (.inr (.inl ⟨ht, rfl, rfl, rfl⟩))))
   replace ht := hid ht
   go_wp2_with fail
   rw [← hw2]
   refine (endless33_32 _).mono ?_
   rintro e w3 ⟨rfl, hb3⟩
   clear r0 r1 r2 r3 r4 m0 m1 m2
   obtain ⟨hBw3, hz3, ⟨r0, r1, r2, r3, r4⟩, m0, m1, m2⟩ := hk.out w3 hb3
   replace hb3 := hid hb3
   replace hBw3 := hid hBw3
   go_wp2_with fail
   refine (sign35_32 _).mono ?_
   rintro e w4 ⟨rfl, hb4⟩
   have hBw4 := hid (hBw3.out.trans (hb4.mono (by omega)))
   replace hb4 := hid hb4
   go_wp2_with fail
   refine bodyPost_ret (results_tmp4 rfl _ _ _) rfl ⟨hBw4.out, _, _, _, _, rfl, hR.out⟩
  ·have hR := hid (hB3.out 2139095040 false 0 (.inr (.inl ⟨ht, rfl, rfl, rfl⟩)))
   replace ht := hid ht
   go_wp2_with fail
   rw [← hw2]
   refine (endless33_32 _).mono ?_
   rintro e w3 ⟨rfl, hb3⟩
   clear r0 r1 r2 r3 r4 m0 m1 m2
   obtain ⟨hBw3, hz3, ⟨r0, r1, r2, r3, r4⟩, m0, m1, m2⟩ := hk.out w3 hb3
   replace hb3 := hid hb3
   replace hBw3 := hid hBw3
   go_wp2_with fail
   refine bodyPost_ret (results_tmp4 rfl _ _ _) rfl ⟨hBw3.out, _, _, _, _, rfl, hR.out⟩
  ·have hR := hid (hB3.out 0 true 0 (.inl ⟨ht, rfl, rfl, rfl⟩))
   replace ht := hid ht
   go_wp2_with fail
   rw [← hw2]
   refine bodyPost_ret (results_tmp4 rfl _ _ _) rfl ⟨hB2.out, _, _, _, _, rfl, hR.out⟩
  ·have hD := D_le hg ht
   have hDl : g.D.length ≤ 64 := by omega
   have hpb := hg.p_bd hDl
   have hM5 := hg.M_500 hDl
   rw [← hp] at hpb
   have hpb1 := hpb.1
   have hpb2 := hpb.2
   obtain ⟨r, hr⟩ : ∃ r, r = rdV 23 149 g.B g.M (g.p 1000000) := ⟨_, rfl⟩
   have hrd := hid (show ∀ wx, Nt wx (.slice ao n c) g.M → Calls Tryz.prog 34 #[.agg #[.int .i64 23, .int .i64 8, .int .i64 (-149)], .slice ao n c, .int .i64 b, .int .i64 p] wx (RdR r 2139095040 wx) from fun wx hx => by
    have h1 := read34_32 g.hex g.M p hM5 hpb (.slice ao n c) wx hx
    rw [hr, hb, ← hp]
    exact h1)
   have hN2 := hid (hNt.mono hb12'.out (Nat.le_refl _))
   have hRl : 2139095040 ≤ r → Hid (RdP 23 149 2139095040 2147483648 s 0 false 0 41) := fun h => hid (hB3.out 0 false 41 (.inr (.inr (.inr ⟨g, hg, ht, rfl, .inl ⟨by rw [← hr]; exact h, rfl, rfl⟩⟩))))
   have hRf : r < 2139095040 → Hid (RdP 23 149 2139095040 2147483648 s (r + (if m then 2147483648 else 0)) false 0 0) := fun h => hid (hB3.out _ false 0 (.inr (.inr (.inr ⟨g, hg, ht, rfl, .inr ⟨by rw [← hr]; exact h, by rw [← hr, hm], rfl⟩⟩))))
   replace hr := hid hr
   replace hm := hid hm
   replace hb := hid hb
   replace hp := hid hp
   replace ht := hid ht
   clear hpb hM5 hNt
   replace hRl := hid hRl
   replace hRf := hid hRf
   go_wp2_with fail
   rw [← hw2]
   refine (endless33_32 _).mono ?_
   rintro e w3 ⟨rfl, hb3⟩
   clear r0 r1 r2 r3 r4 m0 m1 m2
   obtain ⟨hBw3, hz3, ⟨r0, r1, r2, r3, r4⟩, m0, m1, m2⟩ := hk.out w3 hb3
   have hN3 := hid (hN2.out.mono hb3 (Nat.le_refl _))
   have hb3' := hid hb3
   clear hb3
   replace hBw3 := hid hBw3
   go_wp2_with fail
   refine (hrd.out w3 hN3.out).mono ?_
   rintro e w4 ⟨x, rfl, hx1, hx2, hb4⟩
   have hb24 := hb3'.out.trans (hb4.mono hz3)
   clear r0 r1 r2 r3 r4 m0 m1 m2
   obtain ⟨hBw4, hz4, ⟨r0, r1, r2, r3, r4⟩, m0, m1, m2⟩ := hk.out w4 hb24
   replace hb4 := hid hb4
   replace hb24 := hid hb24
   replace hBw4 := hid hBw4
   by_cases hlt : r < 2139095040
   ·have hR := hRf.out hlt
    have hdec : decide (r < 2139095040) = true := decide_eq_true hlt
    rw [hdec]
    have hxr := hx1 hlt
    have hxi : (x : Int) < 2139095040 := by omega
    rw [← hxr] at hR
    replace hxr := hid hxr
    clear hx1 hx2 hlt hdec
    cases m
    ·go_wp2_with fail
     refine bodyPost_ret (results_tmp4 rfl _ _ _) rfl ⟨hBw4.out, _, _, _, _, rfl, hR.out⟩
    ·have hend := hid (fun w5 (h5 : Below w4.heap.size w4 w5) => hBw4.out.trans (h5.mono (show w.heap.size ≤ w4.heap.size by omega)))
     go_wp2_with fail
     refine (sign35_32 _).mono ?_
     rintro e w5 ⟨rfl, hb5⟩
     have hBw5 := hid (hend.out w5 hb5)
     replace hb5 := hid hb5
     go_wp2_with fail
     refine bodyPost_ret (results_tmp4 rfl _ _ _) rfl ⟨hBw5.out, _, _, _, _, rfl, hR.out⟩
   ·have hR := hRl.out (by omega)
    have hdec : decide (r < 2139095040) = false := decide_eq_false hlt
    rw [hdec]
    clear hx1 hx2 hlt hdec
    go_wp2_with fail
    refine bodyPost_ret (results_tmp4 rfl _ _ _) rfl ⟨hBw4.out, _, _, _, _, rfl, hR.out⟩
end
section
set_option maxRecDepth 100000
open Go
structure Te (w : World) : Prop where
 tb : Tb w
 er : ∃ t p, w.cell? ⟨4, 0, none⟩ = some (.iface t p)
theorem Te.on {w w' : World} (h : Te w) (hb : Below w.heap.size w w') : Te w' := by
 obtain ⟨t, p, he⟩ := h.er
 exact ⟨h.tb.on hb, t, p, (hb.cell (p := ⟨4, 0, none⟩) (show 4 < w.heap.size by have := h.tb.gt.1; omega)).trans he⟩
theorem pre129_64 (s : ByteArray) (hs : s.size ≤ 64) (g : Fig) (hg : g.Ok) (ht : bI s = g.txt) (w : World) (hT : Tb w) :
  Calls Tryz.prog 129 #[.string s, .int .i64 64] w fun e w' => (∃ X, X = sg64 g.neg + min (rdV 52 1074 g.B g.M (g.p 10000)) 9218868437227405312 ∧ e = .returned (.tuple #[.float .f64 X, .int .i64 (s.size : Int), if 9218868437227405312 ≤ rdV 52 1074 g.B g.M (g.p 10000) then .iface 144 (.int .i64 1) else .nilIface])) ∧ Below w.heap.size w w' := by
 have ha := atof161 s hs g hg ht w hT
 unfold At64 at ha
 obtain ⟨X, hX⟩ : ∃ X, X = sg64 g.neg + min (rdV 52 1074 g.B g.M (g.p 10000)) 9218868437227405312 := ⟨_, rfl⟩
 obtain ⟨I, hI⟩ : ∃ I : Value, I = if 9218868437227405312 ≤ rdV 52 1074 g.B g.M (g.p 10000) then Value.iface 144 (.int .i64 1) else .nilIface := ⟨_, rfl⟩
 rw [← hX, ← hI] at ha ⊢
 replace ha := hid ha
 have hX' := hid hX
 replace hI := hid hI
 clear hX
 suffices hx : Calls Tryz.prog 129 #[.string s, .int .i64 64] w fun e w' => e = .returned (.tuple #[.float .f64 X, .int .i64 (s.size : Int), I]) ∧ Below w.heap.size w w' from hx.mono fun e w' h => ⟨⟨X, rfl, h.1⟩, h.2⟩
 go_enter Tryz.func129, Tryz.ntmps129
 go_wp2_with fail
 refine ha.out.mono ?_
 rintro e w1 ⟨rfl, hB⟩
 replace hB := hid hB
 go_wp2_with fail
 go_ret3
 exact ⟨rfl, hB.out⟩
theorem pre129_32 (s : ByteArray) (hs : s.size ≤ 64) (g : Fig) (hg : g.Ok) (ht : bI s = g.txt) (w : World) (hT : Tb w) :
  Calls Tryz.prog 129 #[.string s, .int .i64 32] w fun e w' => (∃ X, Wd (sg32 g.neg + min (rdV 23 149 g.B g.M (g.p 10000)) 2139095040) X ∧ e = .returned (.tuple #[.float .f64 X, .int .i64 (s.size : Int), if 2139095040 ≤ rdV 23 149 g.B g.M (g.p 10000) then .iface 144 (.int .i64 1) else .nilIface])) ∧ Below w.heap.size w w' := by
 have ha := atof160 s hs g hg ht w hT
 unfold At32 at ha
 obtain ⟨Y, hY⟩ : ∃ Y, Y = sg32 g.neg + min (rdV 23 149 g.B g.M (g.p 10000)) 2139095040 := ⟨_, rfl⟩
 obtain ⟨I, hI⟩ : ∃ I : Value, I = if 2139095040 ≤ rdV 23 149 g.B g.M (g.p 10000) then Value.iface 144 (.int .i64 1) else .nilIface := ⟨_, rfl⟩
 rw [← hY, ← hI] at ha ⊢
 obtain ⟨X, hX⟩ : ∃ X, Wd Y X := by
  rw [hY, sgw32]
  exact wide_word _ _ (Nat.min_le_right _ _)
 have hcv : ∀ w, (convert 61 22 (.float .f32 Y)).run Tryz.prog w = .ok (.float .f64 X) w := fun w => run_convert_float_float w 61 22 .f32 .f64 _ _ (by kernel_rfl) (by kernel_rfl) hX.1
 replace ha := hid ha
 replace hY := hid hY
 replace hI := hid hI
 suffices hx : Calls Tryz.prog 129 #[.string s, .int .i64 32] w fun e w' => e = .returned (.tuple #[.float .f64 X, .int .i64 (s.size : Int), I]) ∧ Below w.heap.size w w' from hx.mono fun e w' h => ⟨⟨X, hX, h.1⟩, h.2⟩
 replace hX := hid hX
 go_enter Tryz.func129, Tryz.ntmps129
 go_wp2_with fail
 refine ha.out.mono ?_
 rintro e w1 ⟨rfl, hB⟩
 replace hB := hid hB
 go_wp2_with (rw [hcv])
 go_ret3
 exact ⟨rfl, hB.out⟩
def PfR64 (g : Fig) (w : World) (e : Ending) (w' : World) : Prop := Below w.heap.size w w' ∧ ∃ X, X = sg64 g.neg + min (rdV 52 1074 g.B g.M (g.p 10000)) 9218868437227405312 ∧ ((rdV 52 1074 g.B g.M (g.p 10000) < 9218868437227405312 ∧ e = .returned (.tuple #[.float .f64 X, .nilIface])) ∨ (9218868437227405312 ≤ rdV 52 1074 g.B g.M (g.p 10000) ∧ ∃ N, e = .returned (.tuple #[.float .f64 X, .iface 147 (.pointer (some ⟨N, 0, none⟩))])))
theorem parse64_64 (s : ByteArray) (hs : s.size ≤ 64) (g : Fig) (hg : g.Ok) (ht : bI s = g.txt) (w : World) (hT : Te w) :
  Calls Tryz.prog 64 #[.string s, .int .i64 64] w (PfR64 g w) := by
 have hpre := pre129_64 s hs g hg ht w hT.tb
 by_cases hb : rdV 52 1074 g.B g.M (g.p 10000) < 9218868437227405312
 ·rw [if_neg (by omega)] at hpre
  replace hpre := hid hpre
  have hfin := hid (show ∀ X e w', X = sg64 g.neg + min (rdV 52 1074 g.B g.M (g.p 10000)) 9218868437227405312 → Below w.heap.size w w' → e = .returned (.tuple #[.float .f64 X, .nilIface]) → PfR64 g w e w' from fun X e w' h1 h2 h3 => ⟨h2, X, h1, .inl ⟨hb, h3⟩⟩)
  have h99 : Hid (Calls Tryz.prog 99 #[.string s, .int .i64 64] w fun e w' => (∃ X, X = sg64 g.neg + min (rdV 52 1074 g.B g.M (g.p 10000)) 9218868437227405312 ∧ e = .returned (.tuple #[.float .f64 X, .nilIface])) ∧ Below w.heap.size w w') := hid (by
   clear hfin hT hb
   go_enter Tryz.func99, Tryz.ntmps99
   go_wp2_with fail
   refine hpre.out.mono ?_
   rintro e w1 ⟨⟨X, hX, rfl⟩, hB⟩
   replace hB := hid hB
   have hX' := hid hX
   clear hX
   go_wp2_with fail
   go_ret2
   exact ⟨⟨X, hX'.out, rfl⟩, hB.out⟩)
  clear hT hb hpre
  go_enter Tryz.func64, Tryz.ntmps64
  go_wp2_with fail
  refine h99.out.mono ?_
  rintro e w1 ⟨⟨X, hX, rfl⟩, hB⟩
  replace hB := hid hB
  have hX' := hid hX
  clear hX
  go_wp2_with fail
  go_ret2
  exact hfin.out X _ _ hX'.out hB.out rfl
 ·rw [if_pos (by omega)] at hpre
  replace hpre := hid hpre
  have hfin := hid (show ∀ X e w' N, X = sg64 g.neg + min (rdV 52 1074 g.B g.M (g.p 10000)) 9218868437227405312 → Below w.heap.size w w' → e = .returned (.tuple #[.float .f64 X, .iface 147 (.pointer (some ⟨N, 0, none⟩))]) → PfR64 g w e w' from fun X e w' N h1 h2 h3 => ⟨h2, X, h1, .inr ⟨by omega, N, h3⟩⟩)
  have h99 : Hid (Calls Tryz.prog 99 #[.string s, .int .i64 64] w fun e w' => (∃ X, X = sg64 g.neg + min (rdV 52 1074 g.B g.M (g.p 10000)) 9218868437227405312 ∧ e = .returned (.tuple #[.float .f64 X, .iface 144 (.int .i64 1)])) ∧ Below w.heap.size w w') := hid (by
   clear hfin hT hb
   go_enter Tryz.func99, Tryz.ntmps99
   go_wp2_with fail
   refine hpre.out.mono ?_
   rintro e w1 ⟨⟨X, hX, rfl⟩, hB⟩
   replace hB := hid hB
   have hX' := hid hX
   clear hX
   go_wp2_with fail
   go_ret2
   exact ⟨⟨X, hX'.out, rfl⟩, hB.out⟩)
  have hTT := hid hT
  clear hT hb hpre
  go_enter Tryz.func64, Tryz.ntmps64
  go_wp2_with fail
  refine h99.out.mono ?_
  rintro e w1 ⟨⟨X, hX, rfl⟩, hB⟩
  obtain ⟨et, ep, hev⟩ := (hTT.out.on hB).er
  have her := hid (fun fn (hfn : True) => Tryz.strconv_toError_range fn s 0 64 (.iface et ep) w1 (by omega) hev (.inr ⟨et, ep, rfl⟩))
  have hsz := hB.size
  have hB' := hid hB
  have hX' := hid hX
  replace hev := hid hev
  clear hX hB
  go_wp2_with fail
  refine (her.out ⟨#[80, 97, 114, 115, 101, 70, 108, 111, 97, 116]⟩ trivial).mono ?_
  rintro e w2 ⟨N, rfl, -, -, hB2⟩
  have hB3 := hid (hB'.out.trans (hB2.mono hsz))
  clear hB2
  go_wp2_with fail
  go_ret2
  exact hfin.out X _ _ N hX'.out hB3.out rfl
def PfR32 (g : Fig) (w : World) (e : Ending) (w' : World) : Prop := Below w.heap.size w w' ∧ ∃ X, Wd (sg32 g.neg + min (rdV 23 149 g.B g.M (g.p 10000)) 2139095040) X ∧ ((rdV 23 149 g.B g.M (g.p 10000) < 2139095040 ∧ e = .returned (.tuple #[.float .f64 X, .nilIface])) ∨ (2139095040 ≤ rdV 23 149 g.B g.M (g.p 10000) ∧ ∃ N, e = .returned (.tuple #[.float .f64 X, .iface 147 (.pointer (some ⟨N, 0, none⟩))])))
theorem parse64_32 (s : ByteArray) (hs : s.size ≤ 64) (g : Fig) (hg : g.Ok) (ht : bI s = g.txt) (w : World) (hT : Te w) :
  Calls Tryz.prog 64 #[.string s, .int .i64 32] w (PfR32 g w) := by
 have hpre := pre129_32 s hs g hg ht w hT.tb
 by_cases hb : rdV 23 149 g.B g.M (g.p 10000) < 2139095040
 ·rw [if_neg (by omega)] at hpre
  replace hpre := hid hpre
  have hfin := hid (show ∀ X e w', Wd (sg32 g.neg + min (rdV 23 149 g.B g.M (g.p 10000)) 2139095040) X → Below w.heap.size w w' → e = .returned (.tuple #[.float .f64 X, .nilIface]) → PfR32 g w e w' from fun X e w' h1 h2 h3 => ⟨h2, X, h1, .inl ⟨hb, h3⟩⟩)
  have h99 : Hid (Calls Tryz.prog 99 #[.string s, .int .i64 32] w fun e w' => (∃ X, Wd (sg32 g.neg + min (rdV 23 149 g.B g.M (g.p 10000)) 2139095040) X ∧ e = .returned (.tuple #[.float .f64 X, .nilIface])) ∧ Below w.heap.size w w') := hid (by
   clear hfin hT hb
   go_enter Tryz.func99, Tryz.ntmps99
   go_wp2_with fail
   refine hpre.out.mono ?_
   rintro e w1 ⟨⟨X, hX, rfl⟩, hB⟩
   replace hB := hid hB
   have hX' := hid hX
   clear hX
   go_wp2_with fail
   go_ret2
   exact ⟨⟨X, hX'.out, rfl⟩, hB.out⟩)
  clear hT hb hpre
  go_enter Tryz.func64, Tryz.ntmps64
  go_wp2_with fail
  refine h99.out.mono ?_
  rintro e w1 ⟨⟨X, hX, rfl⟩, hB⟩
  replace hB := hid hB
  have hX' := hid hX
  clear hX
  go_wp2_with fail
  go_ret2
  exact hfin.out X _ _ hX'.out hB.out rfl
 ·rw [if_pos (by omega)] at hpre
  replace hpre := hid hpre
  have hfin := hid (show ∀ X e w' N, Wd (sg32 g.neg + min (rdV 23 149 g.B g.M (g.p 10000)) 2139095040) X → Below w.heap.size w w' → e = .returned (.tuple #[.float .f64 X, .iface 147 (.pointer (some ⟨N, 0, none⟩))]) → PfR32 g w e w' from fun X e w' N h1 h2 h3 => ⟨h2, X, h1, .inr ⟨by omega, N, h3⟩⟩)
  have h99 : Hid (Calls Tryz.prog 99 #[.string s, .int .i64 32] w fun e w' => (∃ X, Wd (sg32 g.neg + min (rdV 23 149 g.B g.M (g.p 10000)) 2139095040) X ∧ e = .returned (.tuple #[.float .f64 X, .iface 144 (.int .i64 1)])) ∧ Below w.heap.size w w') := hid (by
   clear hfin hT hb
   go_enter Tryz.func99, Tryz.ntmps99
   go_wp2_with fail
   refine hpre.out.mono ?_
   rintro e w1 ⟨⟨X, hX, rfl⟩, hB⟩
   replace hB := hid hB
   have hX' := hid hX
   clear hX
   go_wp2_with fail
   go_ret2
   exact ⟨⟨X, hX'.out, rfl⟩, hB.out⟩)
  have hTT := hid hT
  clear hT hb hpre
  go_enter Tryz.func64, Tryz.ntmps64
  go_wp2_with fail
  refine h99.out.mono ?_
  rintro e w1 ⟨⟨X, hX, rfl⟩, hB⟩
  obtain ⟨et, ep, hev⟩ := (hTT.out.on hB).er
  have her := hid (fun fn (hfn : True) => Tryz.strconv_toError_range fn s 0 32 (.iface et ep) w1 (by omega) hev (.inr ⟨et, ep, rfl⟩))
  have hsz := hB.size
  have hB' := hid hB
  have hX' := hid hX
  replace hev := hid hev
  clear hX hB
  go_wp2_with fail
  refine (her.out ⟨#[80, 97, 114, 115, 101, 70, 108, 111, 97, 116]⟩ trivial).mono ?_
  rintro e w2 ⟨N, rfl, -, -, hB2⟩
  have hB3 := hid (hB'.out.trans (hB2.mono hsz))
  clear hB2
  go_wp2_with fail
  go_ret2
  exact hfin.out X _ _ N hX'.out hB3.out rfl
theorem inf63m (w : World) : Calls Tryz.prog 63 #[.int .i64 (-1)] w fun e w' => e = .returned (.float .f64 18442240474082181120) ∧ w = w' := inf63 (-1) (Or.inr rfl) w
theorem inf63p (w : World) : Calls Tryz.prog 63 #[.int .i64 1] w fun e w' => e = .returned (.float .f64 9218868437227405312) ∧ w = w' := inf63 1 (Or.inl rfl) w
theorem toL (s : ByteArray) : bI s = s.toList.map fun c => (c.toNat : Int) := by rw [ByteArray.toList_eq]; rfl
theorem str_yes {s : ByteArray} {l : List UInt8} (h : bI s = l.map fun c => (c.toNat : Int)) : (s.toList == l) = true := by
 rw [toL] at h
 have hi : ∀ a b : List UInt8, (a.map fun c => (c.toNat : Int)) = (b.map fun c => (c.toNat : Int)) → a = b := by
  intro a
  induction a with
  | nil => intro b h; cases b with
   | nil => rfl
   | cons x r => cases h
  | cons x r ih => intro b h; cases b with
   | nil => cases h
   | cons y q =>
    simp only [List.map_cons, List.cons.injEq] at h
    rw [ih q h.2, UInt8.toNat_inj.1 (Int.ofNat.inj h.1)]
 exact beq_iff_eq.2 (hi _ _ h)
theorem str_no {s : ByteArray} {l : List UInt8} (h : bI s ≠ l.map fun c => (c.toNat : Int)) : (s.toList == l) = false :=
 beq_eq_false_iff_ne.2 (fun e => h (by rw [toL, e]))
theorem Fig.Ok.not_word {g : Fig} (hg : g.Ok) : g.txt ≠ [110, 97, 110] ∧ g.txt ≠ [105, 110, 102] ∧ g.txt ≠ [45, 105, 110, 102] := by
 obtain ⟨c, r, hN, h1, h2⟩ := hg.head
 unfold Fig.txt
 rw [hN]
 cases g.neg
 ·refine ⟨fun h => ?_, fun h => ?_, fun h => ?_⟩ <;> (injection h with h3 _; omega)
 ·refine ⟨fun h => ?_, fun h => ?_, fun h => ?_⟩
  ·injection h with h3 _; omega
  ·injection h with h3 _; omega
  ·injection h with _ h4; injection h4 with h3 _; omega
def ReE64 (s : ByteArray) (w : World) (e : Ending) (w' : World) : Prop := Below w.heap.size w w' ∧ ∃ (X x : Nat) (nan : Bool) (at_ en : Int), e = .returned (.tuple #[.float .f64 X, .int .i64 at_, .int .i64 en]) ∧ RdP 52 1074 9218868437227405312 9223372036854775808 s x nan at_ en ∧ (nan = false → X = x) ∧ (nan = true → X = 9221120237041090561)
theorem read31 (s : ByteArray) (w : World) (hT : Te w) : Calls Tryz.prog 31 #[.string s] w (ReE64 s w) := by
 by_cases hlong : 64 < s.size
 ·have hR := hid (show RdP 52 1074 9218868437227405312 9223372036854775808 s 0 false 64 42 from .inl ⟨hlong, rfl, rfl, rfl, rfl⟩)
  clear hT
  go_enter Tryz.func31, Tryz.ntmps31
  go_wp2_with fail
  go_ret3
  exact ⟨Below.refl _ _, 0, 0, false, _, _, rfl, hR.out, fun _ => rfl, (fun h => by cases h)⟩
 have hs : s.size ≤ 64 := by omega
 have hsc := scan61 s hs w
 rw [scan_same] at hsc
 cases ho : scanR (bI s) with
 | some a =>
  have hR := hid (show RdP 52 1074 9218868437227405312 9223372036854775808 s 0 false a 40 from .inr ⟨hs, .inl ⟨a, ho, rfl, rfl, rfl, rfl⟩⟩)
  rw [ho, show scV (some a) = ((a : Int), false) from rfl] at hsc
  replace hsc := hid hsc
  clear hT ho
  go_enter Tryz.func31, Tryz.ntmps31
  go_wp2_with (go_at_call 61; refine hsc.out.mono ?_; rintro e w' ⟨rfl, rfl⟩)
  go_ret3
  exact ⟨Below.refl _ _, 0, 0, false, _, _, rfl, hR.out, fun _ => rfl, (fun h => by cases h)⟩
 | none =>
  rw [ho, show scV none = (0, true) from rfl] at hsc
  replace hsc := hid hsc
  rcases scan_fig ho with ht | ht | ht | ⟨g, hg, ht⟩
  ·have hR := hid (show RdP 52 1074 9218868437227405312 9223372036854775808 s (9218868437227405312 + 9223372036854775808) false 0 0 from .inr ⟨hs, .inr ⟨ho, rfl, .inr (.inr (.inl ⟨ht, rfl, rfl, rfl⟩))⟩⟩)
   have e1 : (s.toList == [110, 97, 110]) = false := str_no (by rw [ht]; decide)
   have e2 : (s.toList == [105, 110, 102]) = false := str_no (by rw [ht]; decide)
   have e3 : (s.toList == [45, 105, 110, 102]) = true := str_yes (by rw [ht]; rfl)
   clear hT ho ht
   go_enter Tryz.func31, Tryz.ntmps31
   go_wp2_with (first | (go_at_call 61; refine hsc.out.mono ?_; rintro e w' ⟨rfl, rfl⟩) | (go_at_call 63; refine (inf63m _).mono ?_; rintro e w' ⟨rfl, rfl⟩))
   go_ret3
   exact ⟨Below.refl _ _, _, _, false, _, _, rfl, hR.out, fun _ => rfl, (fun h => by cases h)⟩
  ·have hR := hid (show RdP 52 1074 9218868437227405312 9223372036854775808 s 9218868437227405312 false 0 0 from .inr ⟨hs, .inr ⟨ho, rfl, .inr (.inl ⟨ht, rfl, rfl, rfl⟩)⟩⟩)
   have e1 : (s.toList == [110, 97, 110]) = false := str_no (by rw [ht]; decide)
   have e2 : (s.toList == [105, 110, 102]) = true := str_yes (by rw [ht]; rfl)
   clear hT ho ht
   go_enter Tryz.func31, Tryz.ntmps31
   go_wp2_with (first | (go_at_call 61; refine hsc.out.mono ?_; rintro e w' ⟨rfl, rfl⟩) | (go_at_call 63; refine (inf63p _).mono ?_; rintro e w' ⟨rfl, rfl⟩))
   go_ret3
   exact ⟨Below.refl _ _, _, _, false, _, _, rfl, hR.out, fun _ => rfl, (fun h => by cases h)⟩
  ·have hR := hid (show RdP 52 1074 9218868437227405312 9223372036854775808 s 0 true 0 0 from .inr ⟨hs, .inr ⟨ho, rfl, .inl ⟨ht, rfl, rfl, rfl⟩⟩⟩)
   have e1 : (s.toList == [110, 97, 110]) = true := str_yes (by rw [ht]; rfl)
   clear hT ho ht
   go_enter Tryz.func31, Tryz.ntmps31
   go_wp2_with (first | (go_at_call 61; refine hsc.out.mono ?_; rintro e w' ⟨rfl, rfl⟩) | (go_at_call 62; refine (nan62 _).mono ?_; rintro e w' ⟨rfl, rfl⟩))
   go_ret3
   exact ⟨Below.refl _ _, _, _, true, _, _, rfl, hR.out, (fun h => by cases h), fun _ => rfl⟩
  ·have hw := hg.not_word
   have e1 : (s.toList == [110, 97, 110]) = false := str_no (by rw [ht]; exact hw.1)
   have e2 : (s.toList == [105, 110, 102]) = false := str_no (by rw [ht]; exact hw.2.1)
   have e3 : (s.toList == [45, 105, 110, 102]) = false := str_no (by rw [ht]; exact hw.2.2)
   have hpf := hid (parse64_64 s hs g hg ht w hT)
   have hcut := rd_cut (F := 52) (Pm := 1074) (INF := 9218868437227405312) (K := 1024) val_inf64 (by decide) (by decide) hg (by have := D_le hg ht; omega)
   have hfine := hid (show ∀ X : Nat, X = sg64 g.neg + min (rdV 52 1074 g.B g.M (g.p 10000)) 9218868437227405312 → rdV 52 1074 g.B g.M (g.p 10000) < 9218868437227405312 → RdP 52 1074 9218868437227405312 9223372036854775808 s X false 0 0 from fun X hX hl => .inr ⟨hs, .inr ⟨ho, rfl, .inr (.inr (.inr ⟨g, hg, ht, rfl, .inr ⟨by omega, by rw [hX]; unfold sg64; split <;> omega, rfl⟩⟩))⟩⟩)
   have hbig := hid (show 9218868437227405312 ≤ rdV 52 1074 g.B g.M (g.p 10000) → RdP 52 1074 9218868437227405312 9223372036854775808 s 0 false 0 41 from fun hl => .inr ⟨hs, .inr ⟨ho, rfl, .inr (.inr (.inr ⟨g, hg, ht, rfl, .inl ⟨by omega, rfl, rfl⟩⟩))⟩⟩)
   clear hT ho ht hw hcut
   go_enter Tryz.func31, Tryz.ntmps31
   go_wp2_with (first | (go_at_call 61; refine hsc.out.mono ?_; rintro e w' ⟨rfl, rfl⟩) | (go_at_call 65; refine (bits65 _ _).mono ?_; rintro e w' ⟨rfl, rfl⟩))
   refine hpf.out.mono ?_
   rintro e w2 ⟨hB, X, hX, ⟨hl, rfl⟩ | ⟨hl, N, rfl⟩⟩
   ·have hR := hid (hfine.out X hX hl)
    replace hX := hid hX
    replace hl := hid hl
    replace hB := hid hB
    go_wp2_with fail
    go_ret3
    exact ⟨hB.out, X, X, false, _, _, rfl, hR.out, fun _ => rfl, (fun h => by cases h)⟩
   ·have hR := hid (hbig.out hl)
    replace hX := hid hX
    replace hl := hid hl
    replace hB := hid hB
    go_wp2_with fail
    go_ret3
    exact ⟨hB.out, 0, 0, false, _, _, rfl, hR.out, fun _ => rfl, (fun h => by cases h)⟩
end
end Go.Proofs.YtlgneiaenanfaaaGreatDoor
