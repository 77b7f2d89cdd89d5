/- Walks and plain laws, merged: FrF FrG. No condition. -/
import Derived.Test.YtlgneiaenanfaaaGreatDoorKq22
import Derived.Lib.ItoaNum
import Derived.Laws.AppendOwnNone
namespace Go.Proofs.YtlgneiaenanfaaaGreatDoor
open Go.RowKit
set_option linter.unusedVariables false
set_option linter.unusedSimpArgs false
set_option maxRecDepth 100000
set_option maxHeartbeats 64000000
set_option exponentiation.threshold 70000
section
set_option maxRecDepth 100000
open Go
theorem pb_64 {b : Nat} (hb : b ≤ 9218868437227405312) : pM 52 b < 9007199254740992 ∧ (pE 52 b : Int) ≤ 2047 := by
 unfold pM pE
 constructor
 ·split <;> omega
 ·omega
structure NE64 (num den : Nat) (w wr : World) (lo hi : Nat) : Prop where
 lt : lo < hi
 le : hi ≤ 9218868437227405312
 lov : val 52 lo * den ≤ num * 2 ^ 1074
 hiv : hi = 9218868437227405312 ∨ num * 2 ^ 1074 < val 52 hi * den
 be : Below w.heap.size w wr
theorem nearest71_64 (num den : Nat) (hnum : num < 2 ^ 20000) (hden : den < 2 ^ 20000) (hd0 : 0 < den) (vn vd : Value) (w : World) (hn : Nt w vn num) (hd : Nt w vd den) :
  Calls Tryz.prog 71 #[.agg #[.int .i64 52, .int .i64 11, .int .i64 (-1074)], .agg #[vn, vd]] w fun e w' => e = .returned (.tuple #[.int .u64 ((min (nr 52 (num * 2 ^ 1074) den) 9218868437227405312 : Nat) : Int), .bool (decide (nr 52 (num * 2 ^ 1074) den < 9218868437227405312))]) ∧ Below w.heap.size w w' := by
 obtain ⟨b, hbn⟩ : ∃ b, b = nr 52 (num * 2 ^ 1074) den := ⟨_, rfl⟩
 have hup := hid (fun low h1 h2 h3 => up_near 52 9218868437227405312 1074 num den low (by decide) hd0 h1 h2 h3)
 rw [← hbn] at hup ⊢
 obtain ⟨R, hR⟩ : ∃ R : Ending → Prop, R = fun e => e = .returned (.tuple #[.int .u64 ((min b 9218868437227405312 : Nat) : Int), .bool (decide (b < 9218868437227405312))]) := ⟨_, rfl⟩
 suffices hx : Calls Tryz.prog 71 #[.agg #[.int .i64 52, .int .i64 11, .int .i64 (-1074)], .agg #[vn, vd]] w fun e w' => R e ∧ Below w.heap.size w w' from hx.mono fun e w' h => ⟨by have := h.1; rw [hR] at this; exact this, h.2⟩
 have hRR := hid hR
 clear hR
 obtain ⟨ao1, c1, rfl, hc1, hm1, _⟩ := own_any hn
 obtain ⟨ao2, c2, rfl, hc2, hm2, _⟩ := own_any hd
 have hag := hid (fun mant power hm hp w1 h1 h2 => against103 num den mant power hnum hden hm hp (.slice ao1 (limbs num).length c1) (.slice ao2 (limbs den).length c2) w1 h1 h2)
 have hB0 : Below w.heap.size w ((w.alloc (.cells #[.int .i64 52, .int .i64 11, .int .i64 (-1074)] 27)).alloc (.cells #[.slice ao1 (limbs num).length c1, .slice ao2 (limbs den).length c2] 108)) := ((Below.refl _ _).alloc (Nat.le_refl _) _).alloc (by simp) _
 have hs0 : ((w.alloc (.cells #[.int .i64 52, .int .i64 11, .int .i64 (-1074)] 27)).alloc (.cells #[.slice ao1 (limbs num).length c1, .slice ao2 (limbs den).length c2] 108)).heap.size = w.heap.size + 2 := by simp
 have k0 : ((w.alloc (.cells #[.int .i64 52, .int .i64 11, .int .i64 (-1074)] 27)).alloc (.cells #[.slice ao1 (limbs num).length c1, .slice ao2 (limbs den).length c2] 108)).cell? ⟨w.heap.size + 1, 0, none⟩ = some (.slice ao1 (limbs num).length c1) := by simp
 have k1 : ((w.alloc (.cells #[.int .i64 52, .int .i64 11, .int .i64 (-1074)] 27)).alloc (.cells #[.slice ao1 (limbs num).length c1, .slice ao2 (limbs den).length c2] 108)).cell? ⟨w.heap.size + 1, 1, none⟩ = some (.slice ao2 (limbs den).length c2) := by simp
 have l0 : ((w.alloc (.cells #[.int .i64 52, .int .i64 11, .int .i64 (-1074)] 27)).alloc (.cells #[.slice ao1 (limbs num).length c1, .slice ao2 (limbs den).length c2] 108)).cell? ⟨w.heap.size, 0, none⟩ = some (.int .i64 52) := by simp
 have l1 : ((w.alloc (.cells #[.int .i64 52, .int .i64 11, .int .i64 (-1074)] 27)).alloc (.cells #[.slice ao1 (limbs num).length c1, .slice ao2 (limbs den).length c2] 108)).cell? ⟨w.heap.size, 1, none⟩ = some (.int .i64 11) := by simp
 have l2 : ((w.alloc (.cells #[.int .i64 52, .int .i64 11, .int .i64 (-1074)] 27)).alloc (.cells #[.slice ao1 (limbs num).length c1, .slice ao2 (limbs den).length c2] 108)).cell? ⟨w.heap.size, 2, none⟩ = some (.int .i64 (-1074)) := by simp
 replace hn := hid hn
 replace hd := hid hd
 generalize hla : (limbs num).length = la at *
 generalize hlb : (limbs den).length = lb at *
 replace hla := hid hla
 replace hlb := hid hlb
 unfold maxLen at hm1 hm2
 obtain ⟨w0, hw0⟩ : ∃ w0, w0 = (w.alloc (.cells #[.int .i64 52, .int .i64 11, .int .i64 (-1074)] 27)).alloc (.cells #[.slice ao1 la c1, .slice ao2 lb c2] 108) := ⟨_, rfl⟩
 rw [← hw0] at k0 k1 l0 l1 l2 hB0 hs0
 replace hbn := hid hbn
 have hw0' := hid hw0
 -- what is known of a later world
 have hk := hid (show ∀ wr, Below w0.heap.size w0 wr → Nt wr (.slice ao1 la c1) num ∧ Nt wr (.slice ao2 lb c2) den ∧ Below w.heap.size w wr ∧ w0.heap.size ≤ wr.heap.size ∧ wr.cell? ⟨w.heap.size + 1, 0, none⟩ = some (.slice ao1 la c1) ∧ wr.cell? ⟨w.heap.size + 1, 1, none⟩ = some (.slice ao2 lb c2) ∧ wr.cell? ⟨w.heap.size, 0, none⟩ = some (.int .i64 52) ∧ wr.cell? ⟨w.heap.size, 1, none⟩ = some (.int .i64 11) ∧ wr.cell? ⟨w.heap.size, 2, none⟩ = some (.int .i64 (-1074)) from fun wr h => by
  have hb := hB0.trans (h.mono (by omega))
  exact ⟨hn.out.mono hb (Nat.le_refl _), hd.out.mono hb (Nat.le_refl _), hb, h.size, (h.cell (show w.heap.size + 1 < w0.heap.size by omega)).trans k0, (h.cell (show w.heap.size + 1 < w0.heap.size by omega)).trans k1, (h.cell (show w.heap.size < w0.heap.size by omega)).trans l0, (h.cell (show w.heap.size < w0.heap.size by omega)).trans l1, (h.cell (show w.heap.size < w0.heap.size by omega)).trans l2⟩)
 go_enter Tryz.func71, Tryz.ntmps71
 go_wp2_with fail
 rw [← hw0]
 clear hw0 k0 k1
 refine (endless33_64 _).mono ?_
 rintro e w1 ⟨rfl, hb1⟩
 obtain ⟨_, _, hb1', hz1, q0, q1, q2, q3, q4⟩ := hk.out w1 hb1
 replace hb1 := hid hb1
 clear l0 l1 l2
 go_wp2_with fail
 go_loopw [6, 7] (fun lo hi wr => ∃ l h : Nat, lo = .int .u64 l ∧ hi = .int .u64 h ∧ Hid (NE64 num den w0 wr l h)) (fun lo hi _ => (intOf hi).toNat - (intOf lo).toNat)
 case atStart => exact ⟨0, 9218868437227405312, rfl, rfl, hid ⟨by decide, by decide, by rw [val_zero, Nat.zero_mul]; exact Nat.zero_le _, Or.inl rfl, hb1.out⟩⟩
 case round =>
  obtain ⟨l, h, rfl, rfl, hNE⟩ := hrel
  obtain ⟨hnr, hdr, hbr, hzr, r0, r1, r2, r3, r4⟩ := hk.out wr hNE.out.be
  replace hnr := hid hnr
  replace hdr := hid hdr
  replace hbr := hid hbr
  clear q0 q1 q2 q3 q4
  have hl1 := hNE.out.lt
  have hh1 := hNE.out.le
  by_cases hgap : 1 < h - l
  ·obtain ⟨m, hm⟩ : ∃ m, m = l + (h - l) / 2 := ⟨_, rfl⟩
   have hmi : (l : Int) + ((h : Int) - (l : Int)) / 2 = (m : Int) := by omega
   have hm1' : l < m := by omega
   have hm2' : m < h := by omega
   have hgi : 1 < (h : Int) - (l : Int) := by omega
   obtain ⟨pb1, pb2⟩ := pb_64 (b := m) (by omega)
   have hpa := hid (parts48_64 m (by omega))
   have hagm := hid (fun w1 h1 h2 => hag.out (pM 52 m) ((pE 52 m : Int) - 1074) (by omega) (by omega) w1 h1 h2)
   have hval : Hid (ag (pM 52 m) ((pE 52 m : Int) - 1074) num den ≤ 0 ↔ val 52 m * den ≤ num * 2 ^ 1074) := hid (by
    have := ag_val 52 m 1074 num den
    rw [show ((1074 : Nat) : Int) = 1074 from rfl] at this
    rw [this]; exact cmpN_le)
   generalize hga : ag (pM 52 m) ((pE 52 m : Int) - 1074) num den = c at *
   generalize hgM : pM 52 m = M at *
   generalize hgE : pE 52 m = E at *
   replace hga := hid hga
   replace hgM := hid hgM
   replace hgE := hid hgE
   clear hm hgap
   go_wp2_with fail
   refine (hpa.out _).mono ?_
   rintro e w2 ⟨rfl, h2⟩
   have hb2 := hNE.out.be.trans (h2.mono hzr)
   obtain ⟨hn2, hd2, _, hz2, s0, s1, s2, s3, s4⟩ := hk.out w2 hb2
   have hcc := hid (hagm.out w2 hn2 hd2)
   replace hn2 := hid hn2
   replace hd2 := hid hd2
   replace hb2 := hid hb2
   replace h2 := hid h2
   clear r0 r1 r2 r3 r4
   go_wp2_with fail
   refine hcc.out.mono ?_
   rintro e w3 ⟨rfl, h3⟩
   have hb3 := hid (hb2.out.trans (h3.mono hz2))
   replace h3 := hid h3
   clear s0 s1 s2 s3 s4
   by_cases hc : c ≤ 0
   ·have hnew := hid (show NE64 num den w0 w3 m h from ⟨hm2', hh1, hval.out.1 hc, hNE.out.hiv, hb3.out⟩)
    go_wp2_with fail
    go_roundw
    case rel => exact ⟨m, h, rfl, rfl, hnew⟩
    case measure => simp [intOf]; omega
   ·have hnew := hid (show NE64 num den w0 w3 l m from ⟨hm1', by omega, hNE.out.lov, Or.inr (by
     have := mt hval.out.2 hc
     omega), hb3.out⟩)
    go_wp2_with fail
    go_roundw
    case rel => exact ⟨l, m, rfl, rfl, hnew⟩
    case measure => simp [intOf]; omega
  ·obtain rfl : h = l + 1 := by omega
   have hgi : ¬ 1 < ((l + 1 : Nat) : Int) - (l : Int) := by omega
   obtain ⟨pb1, pb2⟩ := pb_64 (b := l) (by omega)
   have hpa := hid (parts48_64 l (by omega))
   have hu := hup.out l (by omega) hNE.out.lov hNE.out.hiv
   have hmn : upN 52 1074 num den l = min b 9218868437227405312 := by
    by_cases hbi : b < 9218868437227405312
    ·rw [hu.1 hbi]; omega
    ·rw [hu.2 (by omega)]; omega
   have hagm := hid (fun w1 h1 h2 => hag.out (2 * pM 52 l + 1) ((pE 52 l : Int) - 1074 - 1) (by omega) (by omega) w1 h1 h2)
   unfold upN at hmn
   rw [show ((1074 : Nat) : Int) = 1074 from rfl] at hmn
   generalize hga : ag (2 * pM 52 l + 1) ((pE 52 l : Int) - 1074 - 1) num den = c at *
   generalize hgM : pM 52 l = M at *
   generalize hgE : pE 52 l = E at *
   replace hga := hid hga
   replace hgM := hid hgM
   replace hgE := hid hgE
   have hM2 : ((2 * M + 1 : Nat) : Int) = 2 * (M : Int) + 1 := by omega
   rw [hM2] at hagm
   clear hM2 hu
   have hmn' := hid hmn
   clear hmn hgap
   have hE0 : 0 ≤ (E : Int) := by omega
   go_wp2_with fail
   refine (hpa.out _).mono ?_
   rintro e w2 ⟨rfl, h2⟩
   have hb2 := hNE.out.be.trans (h2.mono hzr)
   obtain ⟨hn2, hd2, _, hz2, s0, s1, s2, s3, s4⟩ := hk.out w2 hb2
   have hcc := hid (hagm.out w2 hn2 hd2)
   replace hn2 := hid hn2
   replace hd2 := hid hd2
   replace hb2 := hid hb2
   replace h2 := hid h2
   clear r0 r1 r2 r3 r4
   go_wp2_with fail
   refine hcc.out.mono ?_
   rintro e w3 ⟨rfl, h3⟩
   have hb3 := hb2.out.trans (h3.mono hz2)
   obtain ⟨hn3, hd3, hbw3, hz3, t0, t1, t2, t3, t4⟩ := hk.out w3 hb3
   replace hn3 := hid hn3
   replace hd3 := hid hd3
   replace hbw3 := hid hbw3
   replace h3 := hid h3
   clear s0 s1 s2 s3 s4
   have hend := hid (fun w4 (h4 : Below w3.heap.size w3 w4) => hbw3.out.trans (h4.mono (show w.heap.size ≤ w3.heap.size by omega)))
   by_cases hc : c < 0
   ·have hres := (show min b 9218868437227405312 = l + 1 by rw [← hmn'.out, if_pos (Or.inl hc)])
    have hfin : Hid (R (.returned (.tuple #[.int .u64 ((l : Int) + 1), .bool (decide ((l : Int) + 1 < 9218868437227405312))]))) := hid (by
     rw [hRR.out]
     have h1 : ((min b 9218868437227405312 : Nat) : Int) = (l : Int) + 1 := by rw [hres]; rfl
     have h2 : decide (b < 9218868437227405312) = decide ((l : Int) + 1 < 9218868437227405312) := by
      by_cases hbi : b < 9218868437227405312
      ·rw [decide_eq_true hbi, decide_eq_true (by omega)]
      ·rw [decide_eq_false hbi, decide_eq_false (by omega)]
     rw [h1, h2])
    go_wp2_with fail
    refine (endless33_64 _).mono ?_
    rintro e w4 ⟨rfl, h4⟩
    have hb4 := hid (hend.out w4 h4)
    clear h4
    go_wp2_with fail
    go_ret2
    exact ⟨hfin.out, hb4.out⟩
   ·by_cases hc0 : c = 0 ∧ M % 2 = 1
    ·have hres := (show min b 9218868437227405312 = l + 1 by rw [← hmn'.out, if_pos (Or.inr hc0)])
     obtain ⟨rfl, hM1⟩ := hc0
     have hM1' : (M : Int) % 2 = 1 := by omega
     clear hM1 hc
     have hfin : Hid (R (.returned (.tuple #[.int .u64 ((l : Int) + 1), .bool (decide ((l : Int) + 1 < 9218868437227405312))]))) := hid (by
      rw [hRR.out]
      have h1 : ((min b 9218868437227405312 : Nat) : Int) = (l : Int) + 1 := by rw [hres]; rfl
      have h2 : decide (b < 9218868437227405312) = decide ((l : Int) + 1 < 9218868437227405312) := by
       by_cases hbi : b < 9218868437227405312
       ·rw [decide_eq_true hbi, decide_eq_true (by omega)]
       ·rw [decide_eq_false hbi, decide_eq_false (by omega)]
      rw [h1, h2])
     clear hres
     go_wp2_with fail
     refine (endless33_64 _).mono ?_
     rintro e w4 ⟨rfl, h4⟩
     have hb4 := hid (hend.out w4 h4)
     clear h4
     go_wp2_with fail
     go_ret2
     exact ⟨hfin.out, hb4.out⟩
    ·have hres := (show min b 9218868437227405312 = l by rw [← hmn'.out, if_neg (fun h => h.elim hc hc0)])
     have hfin : Hid (R (.returned (.tuple #[.int .u64 ((l : Int)), .bool (decide ((l : Int) < 9218868437227405312))]))) := hid (by
      rw [hRR.out]
      have h1 : ((min b 9218868437227405312 : Nat) : Int) = (l : Int) := by rw [hres]
      have h2 : decide (b < 9218868437227405312) = decide ((l : Int) < 9218868437227405312) := by
       by_cases hbi : b < 9218868437227405312
       ·rw [decide_eq_true hbi, decide_eq_true (by omega)]
       ·rw [decide_eq_false hbi, decide_eq_false (by omega)]
      rw [h1, h2])
     clear hres
     by_cases hcz : c = 0
     ·subst hcz
      have hM1 : M % 2 = 0 := by omega
      have hM1' : (M : Int) % 2 = 0 := by omega
      clear hM1 hc0 hc
      go_wp2_with fail
      refine (endless33_64 _).mono ?_
      rintro e w4 ⟨rfl, h4⟩
      have hb4 := hid (hend.out w4 h4)
      clear h4
      go_wp2_with fail
      go_ret2
      exact ⟨hfin.out, hb4.out⟩
     ·have hcz' : ((c : Int) == 0) = false := by simpa using hcz
      clear hc0
      go_wp2_with fail
      refine (endless33_64 _).mono ?_
      rintro e w4 ⟨rfl, h4⟩
      have hb4 := hid (hend.out w4 h4)
      clear h4
      go_wp2_with fail
      go_ret2
      exact ⟨hfin.out, hb4.out⟩
theorem pb_32 {b : Nat} (hb : b ≤ 2139095040) : pM 23 b < 16777216 ∧ (pE 23 b : Int) ≤ 255 := by
 unfold pM pE
 constructor
 ·split <;> omega
 ·omega
structure NE32 (num den : Nat) (w wr : World) (lo hi : Nat) : Prop where
 lt : lo < hi
 le : hi ≤ 2139095040
 lov : val 23 lo * den ≤ num * 2 ^ 149
 hiv : hi = 2139095040 ∨ num * 2 ^ 149 < val 23 hi * den
 be : Below w.heap.size w wr
theorem nearest71_32 (num den : Nat) (hnum : num < 2 ^ 20000) (hden : den < 2 ^ 20000) (hd0 : 0 < den) (vn vd : Value) (w : World) (hn : Nt w vn num) (hd : Nt w vd den) :
  Calls Tryz.prog 71 #[.agg #[.int .i64 23, .int .i64 8, .int .i64 (-149)], .agg #[vn, vd]] w fun e w' => e = .returned (.tuple #[.int .u64 ((min (nr 23 (num * 2 ^ 149) den) 2139095040 : Nat) : Int), .bool (decide (nr 23 (num * 2 ^ 149) den < 2139095040))]) ∧ Below w.heap.size w w' := by
 obtain ⟨b, hbn⟩ : ∃ b, b = nr 23 (num * 2 ^ 149) den := ⟨_, rfl⟩
 have hup := hid (fun low h1 h2 h3 => up_near 23 2139095040 149 num den low (by decide) hd0 h1 h2 h3)
 rw [← hbn] at hup ⊢
 obtain ⟨R, hR⟩ : ∃ R : Ending → Prop, R = fun e => e = .returned (.tuple #[.int .u64 ((min b 2139095040 : Nat) : Int), .bool (decide (b < 2139095040))]) := ⟨_, rfl⟩
 suffices hx : Calls Tryz.prog 71 #[.agg #[.int .i64 23, .int .i64 8, .int .i64 (-149)], .agg #[vn, vd]] w fun e w' => R e ∧ Below w.heap.size w w' from hx.mono fun e w' h => ⟨by have := h.1; rw [hR] at this; exact this, h.2⟩
 have hRR := hid hR
 clear hR
 obtain ⟨ao1, c1, rfl, hc1, hm1, _⟩ := own_any hn
 obtain ⟨ao2, c2, rfl, hc2, hm2, _⟩ := own_any hd
 have hag := hid (fun mant power hm hp w1 h1 h2 => against103 num den mant power hnum hden hm hp (.slice ao1 (limbs num).length c1) (.slice ao2 (limbs den).length c2) w1 h1 h2)
 have hB0 : Below w.heap.size w ((w.alloc (.cells #[.int .i64 23, .int .i64 8, .int .i64 (-149)] 27)).alloc (.cells #[.slice ao1 (limbs num).length c1, .slice ao2 (limbs den).length c2] 108)) := ((Below.refl _ _).alloc (Nat.le_refl _) _).alloc (by simp) _
 have hs0 : ((w.alloc (.cells #[.int .i64 23, .int .i64 8, .int .i64 (-149)] 27)).alloc (.cells #[.slice ao1 (limbs num).length c1, .slice ao2 (limbs den).length c2] 108)).heap.size = w.heap.size + 2 := by simp
 have k0 : ((w.alloc (.cells #[.int .i64 23, .int .i64 8, .int .i64 (-149)] 27)).alloc (.cells #[.slice ao1 (limbs num).length c1, .slice ao2 (limbs den).length c2] 108)).cell? ⟨w.heap.size + 1, 0, none⟩ = some (.slice ao1 (limbs num).length c1) := by simp
 have k1 : ((w.alloc (.cells #[.int .i64 23, .int .i64 8, .int .i64 (-149)] 27)).alloc (.cells #[.slice ao1 (limbs num).length c1, .slice ao2 (limbs den).length c2] 108)).cell? ⟨w.heap.size + 1, 1, none⟩ = some (.slice ao2 (limbs den).length c2) := by simp
 have l0 : ((w.alloc (.cells #[.int .i64 23, .int .i64 8, .int .i64 (-149)] 27)).alloc (.cells #[.slice ao1 (limbs num).length c1, .slice ao2 (limbs den).length c2] 108)).cell? ⟨w.heap.size, 0, none⟩ = some (.int .i64 23) := by simp
 have l1 : ((w.alloc (.cells #[.int .i64 23, .int .i64 8, .int .i64 (-149)] 27)).alloc (.cells #[.slice ao1 (limbs num).length c1, .slice ao2 (limbs den).length c2] 108)).cell? ⟨w.heap.size, 1, none⟩ = some (.int .i64 8) := by simp
 have l2 : ((w.alloc (.cells #[.int .i64 23, .int .i64 8, .int .i64 (-149)] 27)).alloc (.cells #[.slice ao1 (limbs num).length c1, .slice ao2 (limbs den).length c2] 108)).cell? ⟨w.heap.size, 2, none⟩ = some (.int .i64 (-149)) := by simp
 replace hn := hid hn
 replace hd := hid hd
 generalize hla : (limbs num).length = la at *
 generalize hlb : (limbs den).length = lb at *
 replace hla := hid hla
 replace hlb := hid hlb
 unfold maxLen at hm1 hm2
 obtain ⟨w0, hw0⟩ : ∃ w0, w0 = (w.alloc (.cells #[.int .i64 23, .int .i64 8, .int .i64 (-149)] 27)).alloc (.cells #[.slice ao1 la c1, .slice ao2 lb c2] 108) := ⟨_, rfl⟩
 rw [← hw0] at k0 k1 l0 l1 l2 hB0 hs0
 replace hbn := hid hbn
 have hw0' := hid hw0
 -- what is known of a later world
 have hk := hid (show ∀ wr, Below w0.heap.size w0 wr → Nt wr (.slice ao1 la c1) num ∧ Nt wr (.slice ao2 lb c2) den ∧ Below w.heap.size w wr ∧ w0.heap.size ≤ wr.heap.size ∧ wr.cell? ⟨w.heap.size + 1, 0, none⟩ = some (.slice ao1 la c1) ∧ wr.cell? ⟨w.heap.size + 1, 1, none⟩ = some (.slice ao2 lb c2) ∧ wr.cell? ⟨w.heap.size, 0, none⟩ = some (.int .i64 23) ∧ wr.cell? ⟨w.heap.size, 1, none⟩ = some (.int .i64 8) ∧ wr.cell? ⟨w.heap.size, 2, none⟩ = some (.int .i64 (-149)) from fun wr h => by
  have hb := hB0.trans (h.mono (by omega))
  exact ⟨hn.out.mono hb (Nat.le_refl _), hd.out.mono hb (Nat.le_refl _), hb, h.size, (h.cell (show w.heap.size + 1 < w0.heap.size by omega)).trans k0, (h.cell (show w.heap.size + 1 < w0.heap.size by omega)).trans k1, (h.cell (show w.heap.size < w0.heap.size by omega)).trans l0, (h.cell (show w.heap.size < w0.heap.size by omega)).trans l1, (h.cell (show w.heap.size < w0.heap.size by omega)).trans l2⟩)
 go_enter Tryz.func71, Tryz.ntmps71
 go_wp2_with fail
 rw [← hw0]
 clear hw0 k0 k1
 refine (endless33_32 _).mono ?_
 rintro e w1 ⟨rfl, hb1⟩
 obtain ⟨_, _, hb1', hz1, q0, q1, q2, q3, q4⟩ := hk.out w1 hb1
 replace hb1 := hid hb1
 clear l0 l1 l2
 go_wp2_with fail
 go_loopw [6, 7] (fun lo hi wr => ∃ l h : Nat, lo = .int .u64 l ∧ hi = .int .u64 h ∧ Hid (NE32 num den w0 wr l h)) (fun lo hi _ => (intOf hi).toNat - (intOf lo).toNat)
 case atStart => exact ⟨0, 2139095040, rfl, rfl, hid ⟨by decide, by decide, by rw [val_zero, Nat.zero_mul]; exact Nat.zero_le _, Or.inl rfl, hb1.out⟩⟩
 case round =>
  obtain ⟨l, h, rfl, rfl, hNE⟩ := hrel
  obtain ⟨hnr, hdr, hbr, hzr, r0, r1, r2, r3, r4⟩ := hk.out wr hNE.out.be
  replace hnr := hid hnr
  replace hdr := hid hdr
  replace hbr := hid hbr
  clear q0 q1 q2 q3 q4
  have hl1 := hNE.out.lt
  have hh1 := hNE.out.le
  by_cases hgap : 1 < h - l
  ·obtain ⟨m, hm⟩ : ∃ m, m = l + (h - l) / 2 := ⟨_, rfl⟩
   have hmi : (l : Int) + ((h : Int) - (l : Int)) / 2 = (m : Int) := by omega
   have hm1' : l < m := by omega
   have hm2' : m < h := by omega
   have hgi : 1 < (h : Int) - (l : Int) := by omega
   obtain ⟨pb1, pb2⟩ := pb_32 (b := m) (by omega)
   have hpa := hid (parts48_32 m (by omega))
   have hagm := hid (fun w1 h1 h2 => hag.out (pM 23 m) ((pE 23 m : Int) - 149) (by omega) (by omega) w1 h1 h2)
   have hval : Hid (ag (pM 23 m) ((pE 23 m : Int) - 149) num den ≤ 0 ↔ val 23 m * den ≤ num * 2 ^ 149) := hid (by
    have := ag_val 23 m 149 num den
    rw [show ((149 : Nat) : Int) = 149 from rfl] at this
    rw [this]; exact cmpN_le)
   generalize hga : ag (pM 23 m) ((pE 23 m : Int) - 149) num den = c at *
   generalize hgM : pM 23 m = M at *
   generalize hgE : pE 23 m = E at *
   replace hga := hid hga
   replace hgM := hid hgM
   replace hgE := hid hgE
   clear hm hgap
   go_wp2_with fail
   refine (hpa.out _).mono ?_
   rintro e w2 ⟨rfl, h2⟩
   have hb2 := hNE.out.be.trans (h2.mono hzr)
   obtain ⟨hn2, hd2, _, hz2, s0, s1, s2, s3, s4⟩ := hk.out w2 hb2
   have hcc := hid (hagm.out w2 hn2 hd2)
   replace hn2 := hid hn2
   replace hd2 := hid hd2
   replace hb2 := hid hb2
   replace h2 := hid h2
   clear r0 r1 r2 r3 r4
   go_wp2_with fail
   refine hcc.out.mono ?_
   rintro e w3 ⟨rfl, h3⟩
   have hb3 := hid (hb2.out.trans (h3.mono hz2))
   replace h3 := hid h3
   clear s0 s1 s2 s3 s4
   by_cases hc : c ≤ 0
   ·have hnew := hid (show NE32 num den w0 w3 m h from ⟨hm2', hh1, hval.out.1 hc, hNE.out.hiv, hb3.out⟩)
    go_wp2_with fail
    go_roundw
    case rel => exact ⟨m, h, rfl, rfl, hnew⟩
    case measure => simp [intOf]; omega
   ·have hnew := hid (show NE32 num den w0 w3 l m from ⟨hm1', by omega, hNE.out.lov, Or.inr (by
     have := mt hval.out.2 hc
     omega), hb3.out⟩)
    go_wp2_with fail
    go_roundw
    case rel => exact ⟨l, m, rfl, rfl, hnew⟩
    case measure => simp [intOf]; omega
  ·obtain rfl : h = l + 1 := by omega
   have hgi : ¬ 1 < ((l + 1 : Nat) : Int) - (l : Int) := by omega
   obtain ⟨pb1, pb2⟩ := pb_32 (b := l) (by omega)
   have hpa := hid (parts48_32 l (by omega))
   have hu := hup.out l (by omega) hNE.out.lov hNE.out.hiv
   have hmn : upN 23 149 num den l = min b 2139095040 := by
    by_cases hbi : b < 2139095040
    ·rw [hu.1 hbi]; omega
    ·rw [hu.2 (by omega)]; omega
   have hagm := hid (fun w1 h1 h2 => hag.out (2 * pM 23 l + 1) ((pE 23 l : Int) - 149 - 1) (by omega) (by omega) w1 h1 h2)
   unfold upN at hmn
   rw [show ((149 : Nat) : Int) = 149 from rfl] at hmn
   generalize hga : ag (2 * pM 23 l + 1) ((pE 23 l : Int) - 149 - 1) num den = c at *
   generalize hgM : pM 23 l = M at *
   generalize hgE : pE 23 l = E at *
   replace hga := hid hga
   replace hgM := hid hgM
   replace hgE := hid hgE
   have hM2 : ((2 * M + 1 : Nat) : Int) = 2 * (M : Int) + 1 := by omega
   rw [hM2] at hagm
   clear hM2 hu
   have hmn' := hid hmn
   clear hmn hgap
   have hE0 : 0 ≤ (E : Int) := by omega
   go_wp2_with fail
   refine (hpa.out _).mono ?_
   rintro e w2 ⟨rfl, h2⟩
   have hb2 := hNE.out.be.trans (h2.mono hzr)
   obtain ⟨hn2, hd2, _, hz2, s0, s1, s2, s3, s4⟩ := hk.out w2 hb2
   have hcc := hid (hagm.out w2 hn2 hd2)
   replace hn2 := hid hn2
   replace hd2 := hid hd2
   replace hb2 := hid hb2
   replace h2 := hid h2
   clear r0 r1 r2 r3 r4
   go_wp2_with fail
   refine hcc.out.mono ?_
   rintro e w3 ⟨rfl, h3⟩
   have hb3 := hb2.out.trans (h3.mono hz2)
   obtain ⟨hn3, hd3, hbw3, hz3, t0, t1, t2, t3, t4⟩ := hk.out w3 hb3
   replace hn3 := hid hn3
   replace hd3 := hid hd3
   replace hbw3 := hid hbw3
   replace h3 := hid h3
   clear s0 s1 s2 s3 s4
   have hend := hid (fun w4 (h4 : Below w3.heap.size w3 w4) => hbw3.out.trans (h4.mono (show w.heap.size ≤ w3.heap.size by omega)))
   by_cases hc : c < 0
   ·have hres := (show min b 2139095040 = l + 1 by rw [← hmn'.out, if_pos (Or.inl hc)])
    have hfin : Hid (R (.returned (.tuple #[.int .u64 ((l : Int) + 1), .bool (decide ((l : Int) + 1 < 2139095040))]))) := hid (by
     rw [hRR.out]
     have h1 : ((min b 2139095040 : Nat) : Int) = (l : Int) + 1 := by rw [hres]; rfl
     have h2 : decide (b < 2139095040) = decide ((l : Int) + 1 < 2139095040) := by
      by_cases hbi : b < 2139095040
      ·rw [decide_eq_true hbi, decide_eq_true (by omega)]
      ·rw [decide_eq_false hbi, decide_eq_false (by omega)]
     rw [h1, h2])
    go_wp2_with fail
    refine (endless33_32 _).mono ?_
    rintro e w4 ⟨rfl, h4⟩
    have hb4 := hid (hend.out w4 h4)
    clear h4
    go_wp2_with fail
    go_ret2
    exact ⟨hfin.out, hb4.out⟩
   ·by_cases hc0 : c = 0 ∧ M % 2 = 1
    ·have hres := (show min b 2139095040 = l + 1 by rw [← hmn'.out, if_pos (Or.inr hc0)])
     obtain ⟨rfl, hM1⟩ := hc0
     have hM1' : (M : Int) % 2 = 1 := by omega
     clear hM1 hc
     have hfin : Hid (R (.returned (.tuple #[.int .u64 ((l : Int) + 1), .bool (decide ((l : Int) + 1 < 2139095040))]))) := hid (by
      rw [hRR.out]
      have h1 : ((min b 2139095040 : Nat) : Int) = (l : Int) + 1 := by rw [hres]; rfl
      have h2 : decide (b < 2139095040) = decide ((l : Int) + 1 < 2139095040) := by
       by_cases hbi : b < 2139095040
       ·rw [decide_eq_true hbi, decide_eq_true (by omega)]
       ·rw [decide_eq_false hbi, decide_eq_false (by omega)]
      rw [h1, h2])
     clear hres
     go_wp2_with fail
     refine (endless33_32 _).mono ?_
     rintro e w4 ⟨rfl, h4⟩
     have hb4 := hid (hend.out w4 h4)
     clear h4
     go_wp2_with fail
     go_ret2
     exact ⟨hfin.out, hb4.out⟩
    ·have hres := (show min b 2139095040 = l by rw [← hmn'.out, if_neg (fun h => h.elim hc hc0)])
     have hfin : Hid (R (.returned (.tuple #[.int .u64 ((l : Int)), .bool (decide ((l : Int) < 2139095040))]))) := hid (by
      rw [hRR.out]
      have h1 : ((min b 2139095040 : Nat) : Int) = (l : Int) := by rw [hres]
      have h2 : decide (b < 2139095040) = decide ((l : Int) < 2139095040) := by
       by_cases hbi : b < 2139095040
       ·rw [decide_eq_true hbi, decide_eq_true (by omega)]
       ·rw [decide_eq_false hbi, decide_eq_false (by omega)]
      rw [h1, h2])
     clear hres
     by_cases hcz : c = 0
     ·subst hcz
      have hM1 : M % 2 = 0 := by omega
      have hM1' : (M : Int) % 2 = 0 := by omega
      clear hM1 hc0 hc
      go_wp2_with fail
      refine (endless33_32 _).mono ?_
      rintro e w4 ⟨rfl, h4⟩
      have hb4 := hid (hend.out w4 h4)
      clear h4
      go_wp2_with fail
      go_ret2
      exact ⟨hfin.out, hb4.out⟩
     ·have hcz' : ((c : Int) == 0) = false := by simpa using hcz
      clear hc0
      go_wp2_with fail
      refine (endless33_32 _).mono ?_
      rintro e w4 ⟨rfl, h4⟩
      have hb4 := hid (hend.out w4 h4)
      clear h4
      go_wp2_with fail
      go_ret2
      exact ⟨hfin.out, hb4.out⟩
end
section
set_option maxRecDepth 100000
open Go
theorem wpList_append_ints {P : Program} {w : World} {ops : Array Oper} {rest : List Oper} {o : Oper} {a : Act} {Q : Exit → Act → World → Prop} (hgd : o.guard = none) (s x : Operand) (t : TypeId)
  (ho : o.op = .call { callee := .builtin .append, args := #[s, x], argTypes := #[t, t] })
  (base : Nat) (e : TypeId) (k : IntKind) (z : Value) (bytes : Nat) (ht : P.underlying t = some (.slice e)) (hinfo : (P.info? e).map (fun i => (i.zero, i.size, i.bytes)) = some (some z, 1, bytes))
  (hzs : z.cells.size = 1)
  (v : Value) (n : Nat) (xs : List Value) (hown : w.ownsRow base e 1 v n xs) (ao : Option Addr) (cap : Nat) (l : List Int) (hI : Ints k w ao l) (hno : ao = none → cap = 0)
  (h63 : n + l.length ≤ maxLen) (hbytes : (n + l.length) * bytes ≤ 140737488355328) (hbase : base ≤ w.heap.size)
  (hs : a.eval s = v) (hx : a.eval x = .slice ao l.length cap)
  (h : ∀ v' w', w'.ownsRow base e 1 v' (n + l.length) (xs ++ l.map (Value.int k)) → Below base w w' → wpList P ops Q rest (a.put o.dst v') w') :
  wpList P ops Q (o :: rest) a w := by
 cases ao with
 | none =>
  have hl : l = [] := by
   rcases hI.cell with h0 | ⟨b, off, h0, _⟩
   ·exact List.eq_nil_of_length_eq_zero (by omega)
   ·cases h0
  subst hl
  obtain ⟨i, hi, hz0, hz1, hz2⟩ := info_parts hinfo
  rw [hno rfl] at hx
  have hrun := run_append_owned_none (P := P) (w := w) base t o.type e i 1 ht hi v n xs hown
  refine wpList_plain hgd fun K hK => ?_
  unfold Oper.wp execOp
  simp only [ho, resolve, invoke, builtin, Sem.run_bind, Sem.run_pure, Result.andThen_ok, List.map_toArray, List.map_cons, List.map_nil, hs, hx]
  have hrun' : (Builtin.append_ #[t, t] o.type #[v, .slice none ([] : List Int).length 0]).run P w = .ok v w := hrun
  rw [hrun']
  exact hK _ _ (h v w (by simpa using hown) (Below.refl _ _))
 | some ad =>
  exact wpList_append_src hgd s x t ho base e z 1 bytes ht hinfo hzs (by decide) v n xs hown ad l.length cap (l.map (Value.int k)) (by simp) hI.news (ints_one k l) h63 hbytes hbase hs hx (fun v' w' h1 h2 _ => h v' w' h1 h2)
def lenOf : Value → Nat
 | .slice _ n _ => n
 | _ => 0
theorem decDigits_ten (u : Nat) (h : 10 ≤ u) : Lib.decDigits u = Lib.decDigits (u / 10) ++ [UInt8.ofNat (48 + u % 10)] := by
 rw [Lib.decDigits, dif_neg (by omega)]
def Wr (u0 u : Nat) (ds : List Int) : Prop := (Lib.decDigits u0).map (fun b => (b.toNat : Int)) = (if u = 0 then [] else (Lib.decDigits u).map fun b => (b.toNat : Int)) ++ ds
theorem Wr.step {u0 u : Nat} {ds : List Int} (h : Wr u0 u ds) (hu : u ≠ 0) : Wr u0 (u / 10) ((48 + ((u % 10 : Nat) : Int)) :: ds) := by
 unfold Wr at h ⊢
 rw [h, if_neg hu]
 have hb : ((UInt8.ofNat (48 + u % 10)).toNat : Int) = 48 + ((u % 10 : Nat) : Int) := by
  have : u % 10 < 10 := Nat.mod_lt _ (by decide)
  rw [UInt8.toNat_ofNat', Nat.mod_eq_of_lt (by omega)]; omega
 by_cases h10 : u < 10
 ·rw [if_pos (by omega), Lib.decDigits, dif_pos h10]
  have e : u % 10 = u := Nat.mod_eq_of_lt h10
  rw [e] at hb ⊢
  simp [hb]
  omega
 ·rw [if_neg (by omega), decDigits_ten u (by omega), List.map_append]
  simp [hb]
  omega
theorem own_any2 {w : World} {base : Nat} {e : TypeId} {size : Nat} {v : Value} {n : Nat} {xs : List Value} (h : w.ownsRow base e size v n xs) : ∃ ao cap, v = .slice ao n cap ∧ n ≤ cap ∧ cap ≤ maxLen ∧ (n = 0 ∨ ∃ g, ao = some ⟨g, 0, none⟩) ∧ (ao = none → cap = 0) := by
 obtain ⟨h1, h2⟩ := h
 rcases h2 with ⟨hv, h2⟩ | ⟨g, cap, cur, hv, hg, hh, a, b, c⟩
 ·exact ⟨none, 0, by rw [hv, h2], by omega, by unfold maxLen; omega, .inl h2, fun _ => rfl⟩
 ·exact ⟨_, cap, hv, a, b, .inr ⟨g, rfl⟩, fun h => by cases h⟩
theorem under88 : Tryz.prog.underlying 88 = some (.slice 5) := by kernel_rfl
theorem under5 : Tryz.prog.underlying 5 = some (.int .u8) := by kernel_rfl
theorem under9 : Tryz.prog.underlying 9 = some .string := by kernel_rfl
theorem info5b : (Tryz.prog.info? 5).map (fun i => (i.zero, i.size, i.bytes)) = some (some (.int .u8 0), 1, 1) := by kernel_rfl
def iv (l : List Int) : List Value := l.map (Value.int .u8)
theorem conv88 {B : Nat} {v : Value} {n : Nat} {l : List UInt8} {w : World} (hn : n = l.length) (ho : w.ownsRow B 5 1 v n (l.map (fun b => Value.int .u8 (b.toNat : Int)))) : (convert 88 9 v).run Tryz.prog w = .ok (.string ⟨l.toArray⟩) w := by
 rcases ho.2 with ⟨rfl, h0⟩ | ⟨g, cap, cur, rfl, hg, hh, r⟩
 ·obtain rfl : l = [] := List.eq_nil_of_length_eq_zero (by omega)
  exact run_convert_bytes_nil w 88 5 under88 under5 0 0 9 under9
 ·rw [hn]
  refine run_convert_bytes_back (P := Tryz.prog) w 88 9 5 ⟨g, 0, none⟩ cap l under88 under5 under9 (fun j hj => ?_)
  rw [show (⟨g, 0, none⟩ : Addr).add j = ⟨g, j, none⟩ by unfold Addr.add; split <;> simp_all, ho.cellAt j (by omega)]
  simp [List.getElem?_eq_getElem hj]
structure DC (w0 wr : World) (l : List Int) (q : Value) (k rest : Nat) (nx : List Int) : Prop where
 own : wr.ownsRow w0.heap.size 34 1 q nx.length (nv nx)
 len : nx.length + k = l.length
 lb : Lb nx
 eq : natL (l.drop k) = 10 * natL nx + rest
 r9 : rest < 10
 be : Below w0.heap.size w0 wr
structure DD (N D : Nat) (w wx : World) (v d : Value) (u : Nat) (ds : List Int) : Prop where
 nt : Nt wx v u
 own : wx.ownsRow w.heap.size 5 1 d ds.length (iv ds)
 wr : Wr N u ds
 dg : ∀ x ∈ ds, 48 ≤ x ∧ x ≤ 57
 le : u * 10 ^ ds.length ≤ N
 be : Below w.heap.size w wx
theorem DD.few {N D : Nat} {w wr : World} {v d : Value} {u : Nat} {ds : List Int} (h : DD N D w wr v d u ds) (hN : N < 10 ^ D) (hu : u ≠ 0) : ds.length < D := by
 have h1 : 1 * 10 ^ ds.length ≤ u * 10 ^ ds.length := Nat.mul_le_mul_right _ (by omega)
 exact (Nat.pow_lt_pow_iff_right (by decide : 1 < 10)).1 (by have := h.le; omega)
theorem decimal52 (N D : Nat) (hN : N < 10 ^ D) (hD : D ≤ 15000) (v : Value) (w : World) (hv : Nt w v N) :
  Calls Tryz.prog 52 #[v] w fun e w' => e = .returned (.string ⟨(Lib.decDigits N).toArray⟩) ∧ Below w.heap.size w w' := by
 obtain ⟨txt, htxt⟩ : ∃ txt : ByteArray, txt = ⟨(Lib.decDigits N).toArray⟩ := ⟨_, rfl⟩
 rw [← htxt]
 replace htxt := hid htxt
 have hSm := hid (show ∀ u, u ≤ N → Sm u from fun u hu => Sm_of (k := 60000) (Nat.lt_of_le_of_lt hu (Nat.lt_of_lt_of_le hN (Nat.le_trans (Nat.pow_le_pow_right (by decide) hD) (by
  rw [show (10 : Nat) ^ 15000 = (10 ^ 3) ^ 5000 by rw [← Nat.pow_mul], show (2 : Nat) ^ 60000 = (2 ^ 12) ^ 5000 by rw [← Nat.pow_mul]]
  exact Nat.pow_le_pow_left (by decide) _)))) (Nat.le_refl _))
 have hvv := hid hv
 clear hv
 replace hN := hid hN
 by_cases hN0 : N = 0
 ·subst hN0
  have hfin := hid (show (⟨#[48]⟩ : ByteArray) = txt by rw [htxt.out, Lib.decDigits]; rfl)
  obtain ⟨vo, cap, b, off, rfl, hcap, hmax, hao, hc⟩ := hvv.out.open
  rw [limbs_zero] at hcap hao hc ⊢
  clear hao hc
  go_enter Tryz.func52, Tryz.ntmps52
  go_wp2_with fail
  refine wp_loop_rounds 1 ?_
  rw [rounds_succ]
  go_wp2_with fail
  go_ret
  exact ⟨by rw [← hfin.out]; rfl, Below.refl _ _⟩
 replace hN0 := hid hN0
 go_enter Tryz.func52, Tryz.ntmps52
 go_wp2_with fail
 go_loopw [0, 3] (fun v d wr => ∃ (u : Nat) (ds : List Int), lenOf d = ds.length ∧ Hid (DD N D w wr v d u ds)) (fun _ d _ => D + 1 - lenOf d)
 case atStart => exact ⟨N, [], rfl, hid ⟨hvv.out, World.ownsRow_nil _ _ _ _, by unfold Wr; simp [hN0.out], fun x hx => absurd hx (by simp), by simp, Below.refl _ _⟩⟩
 case round =>
  obtain ⟨u, ds, hlen, hDD⟩ := hrel
  clear hlen
  have hNt := hid hDD.out.nt
  have hOw := hid hDD.out.own
  have hWr := hid hDD.out.wr
  have hdg := hid hDD.out.dg
  have hle := hid hDD.out.le
  have hBe := hid hDD.out.be
  have hfw := hid (hDD.out.few hN.out)
  have hsz := hBe.out.size
  clear hDD
  obtain ⟨vo, cap, b, off, rfl, hcap, hmax, hao, hc⟩ := hNt.out.open
  obtain ⟨dao, dc, rfl, hdc, hdm, hdg2, hdn⟩ := own_any2 hOw.out
  unfold maxLen at hmax hdm
  by_cases hu0 : u = 0
  ·subst hu0
   have hWr0 : (Lib.decDigits N).map (fun b => (b.toNat : Int)) = ds := by have := hWr.out; unfold Wr at this; simpa using this
   have hl1 : ds.length = (Lib.decDigits N).length := by rw [← hWr0, List.length_map]
   have hpos : 0 < ds.length := by
    rw [hl1, Lib.decDigits]
    split <;> simp
   have hcv := conv88 hl1 (w := wr) (v := .slice dao ds.length dc) (B := w.heap.size) (by
    have := hOw.out
    unfold iv at this
    rw [← hWr0, List.map_map] at this
    rw [← hWr0]
    exact this)
   rw [← htxt.out] at hcv
   have hn0 : ((ds.length : Int) == 0) = false := beq_eq_false_iff_ne.2 (by omega)
   rw [limbs_zero] at hcap hao hc ⊢
   clear hWr0 hl1 hao hc hdn hdg2
   go_wp2_with fail
   go_ret
   exact ⟨rfl, hBe.out⟩
  ·have hfew := hid (hfw.out hu0)
   have hSu := hSm.out u (Nat.le_trans (Nat.le_mul_of_pos_right u (Nat.pow_pos (by decide))) hle.out)
   unfold Sm at hSu
   have hlu : 0 < (limbs u).length := List.length_pos_iff.2 (fun e => hu0 (limbs_nil.1 e))
   have hlb := hid (limbs_Lb u)
   have hnl := hid (natL_limbs u)
   obtain ⟨l, hl⟩ : ∃ l, l = limbs u := ⟨_, rfl⟩
   rw [← hl] at hcap hao hc hSu hlu hlb hnl ⊢
   obtain ⟨n, hn⟩ : ∃ n, n = l.length := ⟨_, rfl⟩
   rw [← hn] at hcap hao hc hSu hlu ⊢
   replace hn := hid hn
   replace hl := hid hl
   rcases hao with hn0 | rfl
   ·omega
   have hdD : ds.length < D := hfew.out
   go_wp2_with fail
   obtain ⟨w5, rfl⟩ : ∃ w5, w5 = wr := ⟨_, rfl⟩
   go_loopw [4, 5, 6] (fun r q i wr => ∃ (k rest : Nat) (nx : List Int), i = .int .i64 ((k : Int) - 1) ∧ r = .int .u64 rest ∧ k ≤ n ∧ Hid (DC w5 wr l q k rest nx)) (fun _ _ i _ => (intOf i + 1).toNat)
   case atStart => exact ⟨n, 0, [], rfl, rfl, Nat.le_refl _, hid ⟨World.ownsRow_nil _ _ _ _, by have := hn.out; simp; omega, fun x hx => absurd hx (by simp), by rw [List.drop_of_length_le (by have := hn.out; omega)]; rfl, by decide, Below.refl _ _⟩⟩
   case round =>
    obtain ⟨k, rest, nx, rfl, rfl, hk, hDC⟩ := hrel
    have hr9 := hDC.out.r9
    have hdcs := hDC.out.be.size
    have hnx := hDC.out.len
    rw [← hn.out] at hnx
    obtain ⟨qao, qc, rfl, hqc, hqm, hqg, hqn⟩ := own_any2 hDC.out.own
    unfold maxLen at hqm
    have hqI : Hid (Ints .u32 wr qao nx) := by
     obtain ⟨ao', c', hv', hI, -⟩ := ints_of_own hDC.out.own (wf_limb hDC.out.lb)
     simp only [Value.slice.injEq] at hv'
     obtain ⟨rfl, -, -⟩ := hv'
     exact hI
    by_cases hk0 : k = 0
    ·subst hk0
     have hqu : u = 10 * natL nx + rest := by have := hDC.out.eq; rw [List.drop_zero, hnl.out] at this; exact this
     have hend' := hid (show natL nx = u / 10 by omega)
     have hru : rest = u % 10 := by omega
     have hown7a := own_mono hDC.out.own (Below.refl _ _) (Nat.le_refl _)
     have hLo := hid hDC.out.lb
     have hBx := hid hDC.out.be
     have hdI : Hid (Ints .u8 wr dao ds) := by
      obtain ⟨ao', c', hv', hI, -⟩ := ints_of_own hOw.out (fun x hx => by have := hdg.out x hx; exact wf_u8.2 (by omega))
      simp only [Value.slice.injEq] at hv'
      obtain ⟨rfl, -, -⟩ := hv'
      exact hI.mono hBx.out
     have hlit : Hid ((wr.alloc (.cells #[.int .u8 (48 + (rest : Int))] 5)).ownsRow wr.heap.size 5 1 (.slice (some ⟨wr.heap.size, 0, none⟩) 1 1) 1 [.int .u8 (48 + (rest : Int))]) := own_new (xs := [.int .u8 (48 + (rest : Int))]) (by unfold maxLen; simp)
     have hB1 := hid ((Below.refl wr.heap.size wr).alloc (Nat.le_refl _) (.cells #[.int .u8 (48 + (rest : Int))] 5))
     have hdI2 := hid (hdI.out.mono hB1.out)
     have hdn' := hid hdn
     have hrest9 : (rest : Int) < 10 := by omega
     have hown7 := hid hown7a
     have hnxl : nx.length ≤ n := by omega
     have hwrs : w5.heap.size ≤ wr.heap.size := hdcs
     replace hqu := hid hqu
     replace hru := hid hru
     clear hDC hnx hown7a hdn hqn hqI hc hdg2 hk
     go_wp2_with (at_builtin; go_must (refine wpList_append_ints rfl _ _ 88 rfl wr.heap.size 5 .u8 (.int .u8 0) 1 under88 info5b rfl _ 1 [.int .u8 (48 + (rest : Int))] hlit.out dao dc ds hdI2.out hdn'.out (by unfold maxLen; omega) (by omega) (by simp) rfl rfl ?_); intro v' w2 hown' hb'; obtain ⟨vao, vc, rfl, hvc, hvm, _⟩ := own_any hown'; have hB2 := hid (hB1.out.trans hb'); have hown'' := hid hown'; clear hown' hb')
     have hown7 := hid (own_mono hown7.out hB2.out (Nat.le_refl _))
     have hB3 := hid (hBe.out.trans ((hBx.out.trans (hB2.out.mono hwrs)).mono hsz))
     have hlen2 := hid (show lenOf (.slice vao (1 + ds.length) vc) = ((48 + ((u % 10 : Nat) : Int)) :: ds).length by simp [lenOf]; omega)
     have hres := hid (show ∀ k, Nt w2 (.slice qao k qc) (u / 10) → DD N D w w2 (.slice qao k qc) (.slice vao (1 + ds.length) vc) (u / 10) ((48 + ((u % 10 : Nat) : Int)) :: ds) from fun k hN2 => ⟨hN2, by
       have h1 := own_base hown''.out (show w.heap.size ≤ wr.heap.size by omega)
       rw [hru.out] at h1
       rw [List.length_cons, show ds.length + 1 = 1 + ds.length from Nat.add_comm _ _]
       exact h1, Wr.step hWr.out hu0, fun x hx => by
       rcases List.mem_cons.1 hx with rfl | hx
       ·omega
       ·exact hdg.out x hx, by
       rw [List.length_cons, Nat.pow_succ, Nat.mul_comm (10 ^ ds.length) 10, ← Nat.mul_assoc]
       exact Nat.le_trans (Nat.mul_le_mul_right _ (Nat.div_mul_le_self u 10)) hle.out, hB3.out⟩)
     obtain ⟨nn, hnn'⟩ : ∃ nn, nn = nx.length := ⟨_, rfl⟩
     rw [← hnn'] at hown7 hqc hqg hnxl ⊢
     have hnn := hid hnn'.symm
     clear hnn'
     have hao7 := hqg
     clear hqg
     go_loop [7] (fun i => ∃ j : Nat, i = .int .i64 j ∧ j ≤ nn ∧ Hid (∀ q, j ≤ q → (hq : q < nx.length) → nx[q] = 0)) (fun i => (intOf i).toNat)
     case atStart => exact ⟨nn, rfl, Nat.le_refl _, hid (fun q h1 h2 => by have := hnn.out; omega)⟩
     case round =>
      obtain ⟨j, rfl, hj, hz⟩ := hrel
      by_cases hj0 : j = 0
      ·subst hj0
       have hcut := hid (nt_cut hown7.out hao7 hnn.out hLo.out hend'.out hj hz.out (Or.inl rfl))
       have hnew := hid (hres.out _ hcut.out)
       go_wp2_with fail
       go_roundw
       case rel => exact ⟨u / 10, (48 + ((u % 10 : Nat) : Int)) :: ds, hlen2.out, hnew⟩
       case measure => have := hfew.out; simp [lenOf]; omega
      ·rcases hao7 with h77 | ⟨g7, rfl⟩
       ·omega
       obtain ⟨x, hx1, hx2, hx3⟩ := limb_at hLo.out (show j - 1 < nx.length by have := hnn.out; omega)
       have hcx : w2.cell? ⟨g7, j - 1, none⟩ = some (.int .u32 (x : Int)) := by
        rw [hown7.out.cellAt (j - 1) (by omega), ← hx2]
        unfold nv
        rw [List.getElem?_map, List.getElem?_eq_getElem (show j - 1 < nx.length by have := hnn.out; omega)]
        rfl
       have hji : ((j : Int) - 1).toNat = j - 1 := by omega
       have hj1 : ¬ (j : Int) ≤ 0 := by omega
       have hj2 : 0 < j := by omega
       have hjm : ((j : Int) - 1) = ((j - 1 : Nat) : Int) := by omega
       by_cases hx0 : x = 0
       ·have hz2 := hid (show ∀ q, j - 1 ≤ q → (hq : q < nx.length) → nx[q] = 0 from fun q h1 h2 => by
         by_cases hq : q = j - 1
         ·subst hq; rw [hx2, hx0]; rfl
         ·exact hz.out q (by omega) h2)
        have hjm' := hid hjm
        clear hx1 hx2 hjm
        subst hx0
        go_wp2_with fail
        go_round
        case rel => exact ⟨j - 1, val_int hjm'.out, by omega, hz2⟩
        case measure => simp [intOf]; omega
       ·have hx0' : ((x : Int) == 0) = false := by simpa using hx0
        have hcut := hid (nt_cut hown7.out (Or.inr ⟨g7, rfl⟩) hnn.out hLo.out hend'.out hj hz.out (Or.inr ⟨by have := hnn.out; omega, by rw [hx2]; omega⟩))
        have hnew := hid (hres.out _ hcut.out)
        clear hx1 hx2 hjm hx0
        go_wp2_with fail
        go_roundw
        case rel => exact ⟨u / 10, (48 + ((u % 10 : Nat) : Int)) :: ds, hlen2.out, hnew⟩
        case measure => have := hfew.out; simp [lenOf]; omega
    ·obtain ⟨j, rfl⟩ : ∃ j, k = j + 1 := ⟨k - 1, by omega⟩
     obtain ⟨x, hx1, hx2, hx3⟩ := limb_at hlb.out (show j < l.length by rw [← hn.out]; omega)
     have cx := hc.out j (by omega)
     have cx' := (hDC.out.be.cell (World.block_lt_of_cell? w5 _ cx)).trans cx
     rw [hx1] at cx'
     obtain ⟨T, hT⟩ : ∃ T, T = rest * 4294967296 + x := ⟨_, rfl⟩
     have hTi : (rest : Int) * 4294967296 + (x : Int) = (T : Int) := by omega
     have hTb : (T : Int) < 42949672960 := by omega
     have hst := dc_step (l := l) (nx := nx) (i := j) (rest := rest) (x := x) (by rw [← hn.out]; omega) hx2 hDC.out.eq
     rw [← hT] at hst
     have hji : ((j + 1 : Nat) : Int) - 1 = (j : Int) := by omega
     rw [hji]
     have hlit : Hid ((wr.alloc (.cells #[.int .u32 ((T : Int) / 10)] 34)).ownsRow wr.heap.size 34 1 (.slice (some ⟨wr.heap.size, 0, none⟩) 1 1) 1 [.int .u32 ((T : Int) / 10)]) := own_new (xs := [.int .u32 ((T : Int) / 10)]) (by unfold maxLen; simp)
     have hB1 := hid ((Below.refl wr.heap.size wr).alloc (Nat.le_refl _) (.cells #[.int .u32 ((T : Int) / 10)] 34))
     have hqI2 := hid (hqI.out.mono hB1.out)
     have hqn' := hid hqn
     have hBx := hid hDC.out.be
     have hLo := hid hDC.out.lb
     have hxb : nx.length ≤ n := by omega
     have hxl := hid hnx
     replace hst := hid hst
     replace hT := hid hT
     clear hji hk0 cx hx1 hx2 hDC hnx hqn hqI hdn hdg2
     go_wp2_with (at_builtin; go_must (refine wpList_append_ints rfl _ _ 53 rfl wr.heap.size 34 .u32 (.int .u32 0) 4 under53 info34 rfl _ 1 [.int .u32 ((T : Int) / 10)] hlit.out qao qc nx hqI2.out hqn'.out (by unfold maxLen; omega) (by omega) (by simp) rfl rfl ?_); intro v' w2 hown' hb'; have hown'' := hid hown'; have hb'' := hid hb'; clear hown' hb')
     go_roundw
     case rel => exact ⟨j, T % 10, ((T / 10 : Nat) : Int) :: nx, rfl, rfl, by omega, hid ⟨by
       have h1 := own_base hown''.out hdcs
       rw [List.length_cons, Nat.add_comm]
       exact h1, by have := hxl.out; simp; have := hn.out; omega, fun y hy => by
       rcases List.mem_cons.1 hy with rfl | hy
       ·omega
       ·exact hLo.out y hy, hst.out, by omega, hBx.out.trans ((hB1.out.trans hb''.out).mono hdcs)⟩⟩
     case measure => simp [intOf]
end
end Go.Proofs.YtlgneiaenanfaaaGreatDoor
