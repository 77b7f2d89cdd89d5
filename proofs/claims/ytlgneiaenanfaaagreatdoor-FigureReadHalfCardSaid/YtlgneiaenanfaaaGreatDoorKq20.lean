/- Walks and plain laws, merged: FgV. No condition. -/
import Derived.Test.YtlgneiaenanfaaaGreatDoorKq19
import Derived.Test.YtlgneiaenanfaaaGreatDoorKq14
import Derived.Test.YtlgneiaenanfaaaGreatDoorKq17
import Derived.Test.YtlgneiaenanfaaaGreatDoorKq13
namespace Go.Proofs.YtlgneiaenanfaaaGreatDoor
open Go.RowKit
set_option linter.unusedVariables false
set_option linter.unusedSimpArgs false
set_option maxRecDepth 100000
set_option maxHeartbeats 64000000
set_option exponentiation.threshold 70000
section
set_option maxRecDepth 100000
open Go
theorem results_tmp3 {fn : Func} {t1 t2 t3 : Tmp} (h : fn.results = #[.tmp t1, .tmp t2, .tmp t3]) (tmps : Array Value) (P : Program) (w : World) :
  (results fn tmps).run P w = .ok (.tuple #[tmps.getD t1 undef, tmps.getD t2 undef, tmps.getD t3 undef]) w := by
 simp [results, h]
structure Tb (w : World) : Prop where
 op : w.cell? ⟨1, 0, none⟩ = some (.bool true)
 pw : Pw w
 f64 : Fl64 w
 f32 : Fl32 w
 gt : Gt w.heap.size w
theorem Tb.on {w w' : World} (h : Tb w) (hb : Below w.heap.size w w') : Tb w' := by
 have hz := h.gt.1
 have hc : ∀ b o, b < w.heap.size → w'.cell? ⟨b, o, none⟩ = w.cell? ⟨b, o, none⟩ := fun b o hh => hb.cell (p := ⟨b, o, none⟩) hh
 refine ⟨by rw [hc _ _ (by omega)]; exact h.op, ⟨by have := hb.size; have := h.pw.1; omega, fun i x hx => ?_⟩, ?_, ?_, ?_⟩
 ·rw [hc _ _ h.pw.1, hc _ _ h.pw.1]
  exact h.pw.2 i x hx
 ·obtain ⟨b, og, h1, h2, h3⟩ := h.f64
  refine ⟨b, og, by rw [hc _ _ (by omega)]; exact h1, fun i y hy => ?_, by rw [hc _ _ (by omega)]; exact h3⟩
  have h4 := h2 i y hy
  exact (hb.cell (World.block_lt_of_cell? w _ h4)).trans h4
 ·obtain ⟨b, og, h1, h2⟩ := h.f32
  refine ⟨b, og, by rw [hc _ _ (by omega)]; exact h1, fun i y hy => ?_⟩
  have h4 := h2 i y hy
  exact (hb.cell (World.block_lt_of_cell? w _ h4)).trans h4
 ·obtain ⟨g0, g1, ⟨g, og, g2, g3, g4⟩, ⟨q, oq, q2, q3, q4⟩⟩ := h.gt.on hb
  have := hb.size
  exact ⟨by omega, g1, ⟨g, og, by omega, g3, g4⟩, ⟨q, oq, by omega, q3, q4⟩⟩
theorem Fig.Ok.head {g : Fig} (hg : g.Ok) : ∃ c r, g.N = c :: r ∧ 48 ≤ c ∧ c ≤ 57 := by
 unfold Fig.N
 cases hh : g.hex
 ·obtain ⟨c, r, hI⟩ := List.exists_cons_of_ne_nil hg.nI
  have := hg.pI c (by rw [hI]; exact List.mem_cons_self)
  rw [hh] at this
  have h2 := isD_iff.1 this
  exact ⟨c, r ++ g.T, by simp [hI], h2.1, h2.2⟩
 ·exact ⟨48, 120 :: (g.I ++ g.T), by simp, by decide, by decide⟩
theorem special_fig (s : ByteArray) (g : Fig) (hg : g.Ok) (ht : bI s = g.txt) (w : World) : Calls Tryz.prog 193 #[.string s] w fun e w' => e = .returned (.tuple #[.float .f64 0, .int .i64 0, .bool false]) ∧ w = w' := by
 obtain ⟨c, r, hN, hc1, hc2⟩ := hg.head
 have h0 : (bI s).drop 0 = g.txt := by rw [List.drop_zero]; exact ht
 unfold Fig.txt at h0
 cases hn : g.neg
 ·rw [hn, if_neg (by decide), hN] at h0
  obtain ⟨h1, h2, _⟩ := at_k h0
  exact special_dig s h1 ⟨by omega, by omega⟩ w
 ·rw [hn, if_pos rfl, hN] at h0
  obtain ⟨h1, h2, h3⟩ := at_k h0
  obtain ⟨h4, h5, _⟩ := at_k h3
  have h5' : (s[1].toNat : Int) = c := h5
  exact special_neg s h4 h2 ⟨by omega, by omega⟩ w
theorem zero177 : Tryz.zeroCells177 = (List.replicate 800 (Value.int .u8 0) ++ [Value.int .i64 0, Value.int .i64 0, Value.bool false, Value.bool false]).toArray := by kernel_rfl
theorem fn_zero (w : World) : Fn (w.alloc (.cells Tryz.zeroCells177 177)) w.heap.size zeroC := by
 refine ⟨Tryz.zeroCells177, heap_alloc_new w _, by rw [zero177]; rfl, fun i hi => ?_⟩
 rw [zero177, List.getElem?_toArray]
 by_cases h : i < 800
 ·rw [List.getElem?_append_left (by rw [List.length_replicate]; exact h), List.getElem?_replicate, if_pos h]
  unfold zeroC
  rw [if_pos h]
 ·rw [List.getElem?_append_right (by rw [List.length_replicate]; omega), List.length_replicate]
  have h2 : i = 800 ∨ i = 801 ∨ i = 802 ∨ i = 803 := by omega
  rcases h2 with rfl | rfl | rfl | rfl <;> rfl
theorem Fig.Ok.hexin {g : Fig} (hg : g.Ok) (hh : g.hex = true) (F Pm : Nat) : ∃ N D, 0 < D ∧ rdV F Pm g.B g.M (g.p 10000) = nr F N D ∧ (∃ n d, 0 < d ∧ HR N D n d ((if g.d = 0 then 0 else g.e) + Pm) ∧ stk n d = (if g.t then g.d ||| 1 else g.d) ∧ (g.t = false → n = g.d ∧ d = 1) ∧ True) ∧ (g.t = true → 1152921504606846976 ≤ g.d) := by
 have hB : g.B = 2 := by unfold Fig.B; rw [hh]; rfl
 obtain ⟨N, D, n, d, h1, h2, h3, h4, h5, h6, h7⟩ := hg.hexS hh F Pm
 rw [hB]
 by_cases h0 : g.d = 0
 ·have ht : g.t = false := by
   cases ht : g.t
   ·rfl
   ·have := h7 ht; omega
  refine ⟨0, 1, by decide, ?_, ⟨0, 1, by decide, by unfold HR; simp, ?_, fun _ => ⟨h0.symm, rfl⟩, trivial⟩, h7⟩
  ·rw [hg.nought h0, rdV_zero _ _ _ _ (by decide)]
   exact (nr_tiny (by decide) (by decide)).symm
  ·rw [ht, h0]; rfl
 ·rw [if_neg h0]
  exact ⟨N, D, h2, h3, ⟨n, d, h1, h4, h5, h6, trivial⟩, h7⟩
theorem Fig.Ok.e_bd {g : Fig} (hg : g.Ok) (hl : g.D.length ≤ 64) : -200000 ≤ g.e ∧ g.e ≤ 200000 := by
 have h1 := satE_lt 10000 (by decide) g.E 0 hg.pE (by decide)
 have h2 : g.F.length ≤ 64 := by
  have : g.D.length = g.I.length + g.F.length := List.length_append
  omega
 have h3 : g.q * g.F.length ≤ 4 * 64 := Nat.mul_le_mul (by unfold Fig.q; split <;> omega) h2
 have h4 : g.q * g.lost ≤ 4 * 64 := Nat.mul_le_mul (by unfold Fig.q; split <;> omega) (by unfold Fig.lost; have := kN_le g.D; omega)
 unfold Fig.e Fig.p
 split <;> omega
theorem Fig.Ok.d_64 {g : Fig} (hg : g.Ok) : g.d < 18446744073709551616 ∧ (g.hex = false → g.d + 1 < 18446744073709551616) := by
 have h := hg.d_lt
 have h16 : (16 : Nat) ^ 16 = 18446744073709551616 := by decide
 have h19 : (10 : Nat) ^ 19 = 10000000000000000000 := by decide
 unfold Fig.C Fig.mx at h
 cases hh : g.hex
 ·rw [hh] at h
  simp only [Bool.false_eq_true, if_false] at h
  exact ⟨by omega, fun _ => by omega⟩
 ·rw [hh] at h
  simp only [if_true] at h
  exact ⟨by omega, (fun h => by cases h)⟩
theorem nr_den {F N D : Nat} (hD : 0 < D) : nr F N D ≤ nr F N 1 := by
 have h1 := nr_near F N D hD
 have h2 := nr_near F N 1 (by decide)
 apply Classical.byContradiction
 intro hc
 have h3 := h1.lo
 have h4 := h2.hi
 generalize nr F N D = b at *
 generalize nr F N 1 = c at *
 have h5 : val F (c + 1) ≤ val F b := val_le F (by omega)
 have h6 : val F c ≤ val F (b - 1) := val_le F (by omega)
 have h7 : (val F (b - 1) + val F b) * 1 ≤ (val F (b - 1) + val F b) * D := Nat.mul_le_mul_left _ hD
 rw [Nat.mul_one] at h4 h7
 rcases h3 with h3 | h3 | ⟨h3, h8⟩
 ·omega
 ·rcases h4 with h4 | ⟨h4, h9⟩ <;> omega
 ·rcases h4 with h4 | ⟨h4, h9⟩
  ·omega
  ·-- both at the middle: the same pair, both even
   have h10 : b = c + 1 := by
    apply Classical.byContradiction
    intro hne
    have := val_lt F (show c < b - 1 by omega)
    omega
   omega
theorem rdV_fin {F Pm INF K d k : Nat} (hE : val F INF = 2 ^ K * 2 ^ Pm) (h : 2 * (d * 10 ^ k) < 2 ^ K) : rdV F Pm 10 d (k : Int) < INF := by
 rw [rdV_up]
 apply Classical.byContradiction
 intro hc
 have hn := (nr_near F (d * 10 ^ k * 2 ^ Pm) 1 (by decide)).lo
 have hge : val F INF ≤ val F (nr F (d * 10 ^ k * 2 ^ Pm) 1) := val_le F (by omega)
 generalize nr F (d * 10 ^ k * 2 ^ Pm) 1 = b at *
 have h3 : 2 * (d * 10 ^ k) * 2 ^ Pm < 2 ^ K * 2 ^ Pm := Nat.mul_lt_mul_of_pos_right h (Nat.pow_pos (by decide))
 rw [hE] at hge
 rw [Nat.mul_one] at hn
 have h4 : 2 * (d * 10 ^ k) * 2 ^ Pm = 2 * (d * 10 ^ k * 2 ^ Pm) := by rw [Nat.mul_assoc]
 rcases hn with h0 | h0 | ⟨h0, _⟩
 ·rw [h0, val_zero] at hge
  have : 0 < 2 ^ K * 2 ^ Pm := Nat.mul_pos (Nat.pow_pos (by decide)) (Nat.pow_pos (by decide))
  omega
 ·omega
 ·omega
def At64 (neg : Bool) (b n : Nat) (e : Ending) : Prop := e = .returned (.tuple #[.float .f64 (sg64 neg + min b 9218868437227405312), .int .i64 (n : Int), if 9218868437227405312 ≤ b then .iface 144 (.int .i64 1) else .nilIface])
theorem at64_intro (neg : Bool) (b n X : Nat) (I : Value) (hX : X = sg64 neg + min b 9218868437227405312) (hI : I = if 9218868437227405312 ≤ b then Value.iface 144 (.int .i64 1) else .nilIface) : At64 neg b n (.returned (.tuple #[.float .f64 X, .int .i64 (n : Int), I])) := by
 unfold At64
 rw [hX, hI]
theorem parse205r (neg : Bool) (d : Nat) (hd0 : d ≠ 0) (hd : d < 18446744073709551616) (k : Int) (hk : -345 ≤ k ∧ k ≤ 310) (w : World) (hw : Pw w) :
  Calls Tryz.prog 205 #[.int .u64 d, .int .i64 k, .int .u64 (sg64 neg : Int)] w fun e w' => e = .returned (.tuple #[.float .f64 (sg64 neg + min (rdV 52 1074 10 d k) 9218868437227405312), if 9218868437227405312 ≤ rdV 52 1074 10 d k then .iface 144 (.int .i64 1) else .nilIface]) ∧ Below w.heap.size w w' := by
 obtain ⟨i, hi⟩ : ∃ i : Nat, (i : Int) = k + 348 := ⟨(k + 348).toNat, by omega⟩
 have hil : i < 696 := by omega
 obtain ⟨x, hx⟩ : ∃ x, Go.Pinned.pow10Rows[i]? = some x := ⟨_, List.getElem?_eq_getElem (by rw [rows_len]; exact hil)⟩
 refine (parse205 neg d i hd0 hd hil x hx k _ (by omega) rfl w hw).mono ?_
 rintro e w' ⟨b, hb, he, hB⟩
 have hr : rdV 52 1074 10 d k = b := by
  unfold rdV
  rw [show k.toNat = i - 348 by omega, show (-k).toNat = 348 - i by omega]
  exact nr_eq (Nat.pow_pos (by decide)) hb
 rw [hr]
 exact ⟨he, hB⟩
theorem atof161 (s : ByteArray) (hs : s.size ≤ 64) (g : Fig) (hg : g.Ok) (ht : bI s = g.txt) (w : World) (hT : Tb w) :
  Calls Tryz.prog 161 #[.string s] w fun e w' => At64 g.neg (rdV 52 1074 g.B g.M (g.p 10000)) s.size e ∧ Below w.heap.size w w' := by
 obtain ⟨b, hb⟩ : ∃ b, b = rdV 52 1074 g.B g.M (g.p 10000) := ⟨_, rfl⟩
 obtain ⟨R, hR⟩ : ∃ R, R = At64 g.neg b s.size := ⟨_, rfl⟩
 rw [← hb, ← hR]
 have hsp := hid (special_fig s g hg ht w)
 have hrf := hid (read194 s hs g hg ht w)
 unfold E194 at hrf
 obtain ⟨e, he⟩ : ∃ e, e = if g.d = 0 then 0 else g.e := ⟨_, rfl⟩
 obtain ⟨d, hd⟩ : ∃ d, d = g.d := ⟨_, rfl⟩
 obtain ⟨t, htr⟩ : ∃ t, t = g.t := ⟨_, rfl⟩
 obtain ⟨neg, hneg⟩ : ∃ neg, neg = g.neg := ⟨_, rfl⟩
 obtain ⟨h, hh⟩ : ∃ h, h = g.hex := ⟨_, rfl⟩
 rw [← he, ← hd, ← htr, ← hneg, ← hh] at hrf
 rw [← hneg] at hR
 have hTT := hid hT
 have hop := hT.op
 have hDl : g.D.length ≤ s.size := D_le hg ht
 replace hR := hid hR
 clear hT
 by_cases hx : h = true
 ·subst hx
  obtain ⟨N, D, hD0, hrd, hsx, hbg⟩ := hg.hexin hh.symm 52 1074
  rw [← hb] at hrd
  rw [← he, ← hd, ← htr] at hsx
  rw [← htr, ← hd] at hbg
  have heb := hg.e_bd (by omega)
  have hdb := hg.d_64.1
  rw [← hd] at hdb
  have heb2 : -300000 ≤ e ∧ e ≤ 300000 := by rw [he]; split <;> omega
  have hcall := fun s0 => hex195_64 s0 d e neg t N D hD0 hsx hbg hdb heb2 w hTT.out.gt.2.1
  rw [← hrd] at hcall
  obtain ⟨X, hX⟩ : ∃ X, X = sg64 neg + min b 9218868437227405312 := ⟨_, rfl⟩
  obtain ⟨I, hI⟩ : ∃ I : Value, I = if 9218868437227405312 ≤ b then Value.iface 144 (.int .i64 1) else .nilIface := ⟨_, rfl⟩
  unfold HX64 at hcall
  rw [← hX, ← hI] at hcall
  have hfin := hid (show R (.returned (.tuple #[.float .f64 X, .int .i64 (s.size : Int), I])) by rw [hR.out]; exact at64_intro _ _ _ _ _ hX hI)
  replace hcall := hid hcall
  clear hX hI hb hbg hsx heb hdb heb2 hrd he hd htr hneg hh hDl
  go_enter Tryz.func161, Tryz.ntmps161
  go_wp2_with (first | (go_at_call 193; refine hsp.out.mono ?_; rintro e w' ⟨rfl, rfl⟩) | (go_at_call 194; refine hrf.out.mono ?_; rintro e w' ⟨rfl, rfl⟩))
  refine (hcall.out _).mono ?_
  rintro e2 w2 ⟨rfl, hB2⟩
  replace hB2 := hid hB2
  go_wp2_with fail
  go_ret3
  exact ⟨hfin.out, hB2.out⟩
 ·obtain rfl : h = false := by simpa using hx
  have hB10 : g.B = 10 := by unfold Fig.B; rw [← hh]; rfl
  have hC10 : g.C = 10 := by unfold Fig.C; rw [← hh]; rfl
  have hlo := hg.lo 52 1074
  have hhi := hg.hi 52 1074
  have hsame := hg.same 52 1074
  rw [hB10] at hb hlo hhi hsame
  rw [← hb, ← hd] at hlo hhi hsame
  rw [← htr] at hsame
  have hd64 := hg.d_64
  rw [← hd, ← hh] at hd64
  have hdb := hd64.1
  have hdb1 := hd64.2 rfl
  have heb := hg.e_bd (by omega)
  obtain ⟨X, hX⟩ : ∃ X, X = sg64 neg + min b 9218868437227405312 := ⟨_, rfl⟩
  obtain ⟨I, hI⟩ : ∃ I : Value, I = if 9218868437227405312 ≤ b then Value.iface 144 (.int .i64 1) else .nilIface := ⟨_, rfl⟩
  have hfin := hid (show R (.returned (.tuple #[.float .f64 X, .int .i64 (s.size : Int), I])) by rw [hR.out]; exact at64_intro _ _ _ _ _ hX hI)
  obtain ⟨nb, hnb⟩ : ∃ nb : Int, nb = if neg then 1 else 0 := ⟨_, rfl⟩
  obtain ⟨sI, hsI⟩ : ∃ sI : Int, sI = (sg64 neg : Int) := ⟨_, rfl⟩
  have hsIv : sI = 0 ∨ sI = 9223372036854775808 := by rw [hsI]; cases neg <;> simp [sg64]
  have hsh : nb * 9223372036854775808 = sI := by rw [hnb, hsI]; cases neg <;> simp [sg64]
  have hnb1 : 0 ≤ nb := by rw [hnb]; split <;> omega
  have hnb2 : nb ≤ 1 := by rw [hnb]; split <;> omega
  have hsI1 : 0 ≤ sI := by omega
  have hsI2 : sI ≤ 9223372036854775808 := by omega
  have hwr : IntKind.u64.wrap sI = sI := IntWalk.u64_in _ (by omega)
  have hbo := hid (bool202 neg w)
  rw [← hnb] at hbo
  have hor0 : bits .or .u64 sI 0 = sI := by rcases hsIv with h | h <;> rw [h] <;> kernel_rfl
  have hkc := call203
  replace hnb := hid hnb
  by_cases hd0 : d = 0
  ·have hb0 : b = 0 := by rw [hb, hg.nought (by rw [← hd]; exact hd0), rdV_zero _ _ _ _ (by decide)]
   have hXn : sI.toNat = X := by rw [hX, hb0, hsI]; simp
   have hIn : I = .nilIface := by rw [hI, hb0]; rfl
   have hdz : ((d : Int) == 0) = true := beq_iff_eq.2 (by omega)
   subst hIn
   replace hsIv := hid hsIv
   clear hX hI hb hlo hhi hsame hd64 hdb hdb1 heb he hd htr hneg hh hDl hB10 hC10 hd0 hb0 hsI
   go_enter Tryz.func161, Tryz.ntmps161
   go_wp2_with (first | (go_at_call 193; refine hsp.out.mono ?_; rintro e w' ⟨rfl, rfl⟩) | (go_at_call 194; refine hrf.out.mono ?_; rintro e w' ⟨rfl, rfl⟩) | (go_at_call 202; refine hbo.out.mono ?_; rintro e w' ⟨rfl, rfl⟩))
   go_ret3
   exact ⟨hfin.out, Below.refl _ _⟩
  ·have heg : e = g.e := by rw [he, if_neg (by rw [← hd]; exact hd0)]
   rw [← heg] at hlo hhi hsame heb
   have hdz : ((d : Int) == 0) = false := beq_eq_false_iff_ne.2 (by omega)
   by_cases hhi2 : 310 < e
   ·have hbI : 9218868437227405312 ≤ b := Nat.le_trans (rd64_high hd0 hhi2) hlo
    obtain ⟨s2, hs2⟩ : ∃ s2 : Int, s2 = sI + 9218868437227405312 := ⟨_, rfl⟩
    have hor : bits .or .u64 sI 9218868437227405312 = s2 := by rw [hs2]; rcases hsIv with h | h <;> rw [h] <;> kernel_rfl
    have hXn : s2.toNat = X := by rw [hX, Nat.min_eq_right hbI, hs2, hsI]; exact Int.toNat_natCast _
    replace hs2 := hid hs2
    have hIn : I = .iface 144 (.int .i64 1) := by rw [hI, if_pos hbI]
    subst hIn
    replace hsIv := hid hsIv
    clear hX hI hb hlo hhi hsame hd64 hdb hdb1 he hd htr hneg hh hDl hB10 hC10 hd0 hbI hsI heg
    go_enter Tryz.func161, Tryz.ntmps161
    go_wp2_with (first | (go_at_call 193; refine hsp.out.mono ?_; rintro e w' ⟨rfl, rfl⟩) | (go_at_call 194; refine hrf.out.mono ?_; rintro e w' ⟨rfl, rfl⟩) | (go_at_call 202; refine hbo.out.mono ?_; rintro e w' ⟨rfl, rfl⟩))
    go_ret3
    exact ⟨hfin.out, Below.refl _ _⟩
   by_cases hlo2 : e < -345
   ·have hb0 : b = 0 := by
     have := rd64_low (M := d + 1) (by omega) hlo2
     omega
    have hXn : sI.toNat = X := by rw [hX, hb0, hsI]; simp
    have hIn : I = .nilIface := by rw [hI, hb0]; rfl
    subst hIn
    replace hsIv := hid hsIv
    clear hX hI hb hlo hhi hsame hd64 hdb hdb1 he hd htr hneg hh hDl hB10 hC10 hd0 hb0 hsI heg
    go_enter Tryz.func161, Tryz.ntmps161
    go_wp2_with (first | (go_at_call 193; refine hsp.out.mono ?_; rintro e w' ⟨rfl, rfl⟩) | (go_at_call 194; refine hrf.out.mono ?_; rintro e w' ⟨rfl, rfl⟩) | (go_at_call 202; refine hbo.out.mono ?_; rintro e w' ⟨rfl, rfl⟩))
    go_ret3
    exact ⟨hfin.out, Below.refl _ _⟩
   have hp1 := hid (fun wx (hw : Pw wx) => parse205r neg d hd0 hdb e ⟨by omega, by omega⟩ wx hw)
   rw [← hsI] at hp1
   obtain ⟨X1, hX1⟩ : ∃ X1, X1 = sg64 neg + min (rdV 52 1074 10 d e) 9218868437227405312 := ⟨_, rfl⟩
   obtain ⟨I1, hI1⟩ : ∃ I1 : Value, I1 = if 9218868437227405312 ≤ rdV 52 1074 10 d e then Value.iface 144 (.int .i64 1) else .nilIface := ⟨_, rfl⟩
   rw [← hX1, ← hI1] at hp1
   have he1 : ¬ 310 < e := hhi2
   have he2 : ¬ e < -345 := hlo2
   cases t
   ·have hbs := hsame rfl
    have hex := hid (exact204 neg d hd0 hdb e ⟨by omega, by omega⟩ w hTT.out.f64)
    have hXX : X1 = X := by rw [hX1, hX, hbs]
    have hII : I1 = I := by rw [hI1, hI, hbs]
    subst hXX hII
    have hokI : Hid (e ≤ 60 → I1 = .nilIface) := hid (fun hk => by
     rw [hI1, if_neg]
     have hfi : rdV 52 1074 10 d e < 9218868437227405312 := by
      by_cases h0 : 0 ≤ e
      ·obtain ⟨n, rfl⟩ : ∃ n : Nat, e = (n : Int) := ⟨e.toNat, by omega⟩
       refine rdV_fin val_inf64 ?_
       have h5 : 10 ^ n ≤ 10 ^ 60 := Nat.pow_le_pow_right (by decide) (by omega)
       have h6 : d * 10 ^ n ≤ 18446744073709551616 * 10 ^ 60 := Nat.mul_le_mul (by omega) h5
       have h7 : 2 * (18446744073709551616 * 10 ^ 60) < 2 ^ 1024 := Nat.lt_of_succ_le (Nat.le_of_ble_eq_true (by kernel_rfl))
       omega
      ·have h5 : rdV 52 1074 10 d e ≤ rdV 52 1074 10 d 0 := by
        unfold rdV
        rw [show e.toNat = 0 by omega, show (0 : Int).toNat = 0 from rfl, show (-(0 : Int)).toNat = 0 from rfl]
        exact nr_den (Nat.pow_pos (by decide))
       have h6 := rdV_fin (d := d) (k := 0) val_inf64 (by
        rw [Nat.pow_zero, Nat.mul_one]
        exact Nat.lt_of_lt_of_le (show 2 * d < 2 ^ 65 by omega) (Nat.pow_le_pow_right (by decide) (by decide)))
       exact Nat.lt_of_le_of_lt h5 h6
     omega)
    replace hsIv := hid hsIv
    have hX' := hid hX1
    have hI' := hid hI1
    clear hX hI hb hlo hhi hsame hd64 hdb hdb1 he hd htr hneg hh hDl hB10 hC10 hd0 hsI heg hX1 hI1 hbs
    go_enter Tryz.func161, Tryz.ntmps161
    go_wp2_with (first | (go_at_call 193; refine hsp.out.mono ?_; rintro e w' ⟨rfl, rfl⟩) | (go_at_call 194; refine hrf.out.mono ?_; rintro e w' ⟨rfl, rfl⟩) | (go_at_call 202; refine hbo.out.mono ?_; rintro e w' ⟨rfl, rfl⟩))
    refine hex.out.mono ?_
    rintro e2 w2 ⟨⟨X2, ok, rfl, k1, k2⟩, rfl⟩
    cases ok
    ·clear k1 k2
     go_wp2_with fail
     refine (hp1.out w hTT.out.pw).mono ?_
     rintro e2 w2 ⟨rfl, hB2⟩
     replace hB2 := hid hB2
     go_wp2_with fail
     go_ret3
     exact ⟨hfin.out, hB2.out⟩
    ·have hx2 : X2 = X1 := by rw [k1 rfl, hX'.out]
     have hi2 := hokI.out (k2 rfl)
     subst hx2
     rw [hi2] at hfin
     clear k1 k2 hi2
     go_wp2_with fail
     go_ret3
     exact ⟨hfin.out, Below.refl _ _⟩
   ·have hp2 := hid (fun wx (hw : Pw wx) => parse205r neg (d + 1) (by omega) hdb1 e ⟨by omega, by omega⟩ wx hw)
    rw [← hsI] at hp2
    obtain ⟨r1, hr1⟩ : ∃ r1, r1 = rdV 52 1074 10 d e := ⟨_, rfl⟩
    obtain ⟨r2, hr2⟩ : ∃ r2, r2 = rdV 52 1074 10 (d + 1) e := ⟨_, rfl⟩
    obtain ⟨X2, hX2⟩ : ∃ X2, X2 = sg64 neg + min (rdV 52 1074 10 (d + 1) e) 9218868437227405312 := ⟨_, rfl⟩
    obtain ⟨I2, hI2⟩ : ∃ I2 : Value, I2 = if 9218868437227405312 ≤ rdV 52 1074 10 (d + 1) e then Value.iface 144 (.int .i64 1) else .nilIface := ⟨_, rfl⟩
    rw [← hX2, ← hI2, show ((d + 1 : Nat) : Int) = (d : Int) + 1 from rfl] at hp2
    rw [← hr1] at hX1 hI1 hlo
    rw [← hr2] at hX2 hI2 hhi
    have hcmp : (FloatKind.f64.format.order X1 X2 == some Ordering.eq) = decide (min r1 9218868437227405312 = min r2 9218868437227405312) := by
     rw [hX1, hX2, sgw64, sgw64]
     exact fm_same fm64 (Nat.le_of_ble_eq_true (by kernel_rfl)) neg _ _ (by rw [inf64]; omega) (by rw [inf64]; omega)
    obtain ⟨c, hc⟩ : ∃ c, c = decide (min r1 9218868437227405312 = min r2 9218868437227405312) := ⟨_, rfl⟩
    rw [← hc] at hcmp
    have hdw : IntKind.u64.wrap ((d : Int) + 1) = (d : Int) + 1 := IntWalk.u64_in _ (by omega)
    replace hsIv := hid hsIv
    have hsp' := hsp
    cases c
    ·have hcmp' := hid hcmp
     have hM0 : g.M ≠ 0 := by
      have h1 := hg.kept.1
      rw [← hd] at h1
      intro h2
      rw [h2] at h1
      have h3 : 1 * 1 ≤ d * g.C ^ g.lost := Nat.mul_le_mul (by omega) (Nat.pow_pos (by rw [hC10]; decide))
      omega
     have hpe : g.p 10000 = e - (g.lost : Int) := by
      rw [heg]; unfold Fig.e Fig.q; rw [← hh]; simp
     have hlost : g.lost ≤ 64 := by unfold Fig.lost; have := kN_le g.D; omega
     have hset := hid (fun B wx hw n0 hn => set200 B s hs g hg hh.symm ht wx hw n0 hn)
     rw [← hneg] at hset
     have hhd := hg.ds_head hh.symm hM0
     have hkN : kN g.D ≤ 64 := by have := kN_le g.D; omega
     have hdsl : g.ds.length ≤ 64 := by rw [g.ds_len]; exact hkN
     have hval := hg.ds_val hh.symm (g.p 10000)
     have hfbt := hid (fun B wx hw n0 hn hgt => bits201_64 B g.ds ((kN g.D : Int) + g.p 10000) neg wx hw hhd (g.M * 10 ^ (g.p 10000).toNat) (10 ^ (-(g.p 10000)).toNat) (Nat.pow_pos (by decide)) hval (g.p 10000) (by rw [g.ds_len]) hdsl (fun e f hf => fig_dvd g.M e f (g.p 10000) hf) ⟨by omega, by omega⟩ n0 hn hgt)
     have hrb : nr 52 (g.M * 10 ^ (g.p 10000).toNat * 2 ^ 1074) (10 ^ (-(g.p 10000)).toNat) = b := by rw [hb]; rfl
     rw [hrb] at hfbt
     have hdec : ∀ B wx c, Fn wx B c → SD g.D ((kN g.D : Int) + g.p 10000) neg c → Dec wx B g.ds ((kN g.D : Int) + g.p 10000) neg := fun B wx c h1 h2 => ⟨c, h1, by
      refine ⟨fun i hi => ?_, by rw [g.ds_len]; exact h2.nd, h2.dp, h2.ng, h2.tr, by omega, hg.ds_nine hh.symm⟩
      have hi2 : i < (dropZ g.D).length := by rw [g.ds_len] at hi; exact hi
      rw [h2.dg i hi2]
      have h4 := hg.pDD (dropZ g.D)[i] ((List.dropWhile_suffix _).subset (List.getElem_mem hi2))
      rw [← hh] at h4
      have h5 := (hxv_9 h4).2
      have h6 : g.ds[i] = hxv (dropZ g.D)[i] := by simp [Fig.ds]
      rw [h6]
      exact val_int (by omega)⟩
     have hXs : X = sg64 neg + min b 9218868437227405312 := hX
     replace hdec := hid hdec
     clear hX1 hI1 hX2 hI2 hlo hhi hsame hd64 hdb hdb1 he hd htr hneg hh hDl hB10 hC10 hd0 hsI heg hc hcmp hM0 hpe hlost hhd hkN hdsl hval hrb hr1 hr2 hb
     replace hX := hid hX
     replace hXs := hid hXs
     replace hI := hid hI
     have hcm := hcmp'.out
     go_enter Tryz.func161, Tryz.ntmps161
     go_wp2_with (first | (go_at_call 193; refine hsp.out.mono ?_; rintro e w' ⟨rfl, rfl⟩) | (go_at_call 194; refine hrf.out.mono ?_; rintro e w' ⟨rfl, rfl⟩) | (go_at_call 202; refine hbo.out.mono ?_; rintro e w' ⟨rfl, rfl⟩))
     refine (hp1.out w hTT.out.pw).mono ?_
     rintro e2 w2 ⟨rfl, hB2⟩
     have hT2 := hid (hTT.out.on hB2)
     have hB2' := hid hB2
     clear hB2
     go_wp2_with fail
     refine (hp2.out w2 hT2.out.pw).mono ?_
     rintro e3 w3 ⟨rfl, hB3⟩
     have hT3 := hid (hT2.out.on hB3)
     have hB3' := hid (hB2'.out.trans (hB3.mono hB2'.out.size))
     clear hB3
     have hset2 := hid (hset.out w3.heap.size _ (fn_zero w3) w3.heap.size (Nat.le_refl _))
     have hB4 := hid ((Below.refl w3.heap.size w3).alloc (Nat.le_refl _) (.cells Tryz.zeroCells177 177))
     obtain ⟨ov, hov⟩ : ∃ ov, ov = decide (9218868437227405312 ≤ b) := ⟨_, rfl⟩
     obtain ⟨xi, hxi⟩ : ∃ xi : Int, xi = ((sg64 neg + min b 9218868437227405312 : Nat) : Int) := ⟨_, rfl⟩
     rw [← hov, ← hxi] at hfbt
     have hXi : xi.toNat = X := by rw [hxi, hXs.out]; rfl
     have hIo : I = if ov then Value.iface 144 (.int .i64 1) else .nilIface := by
      rw [hI.out, hov]
      by_cases hbi : 9218868437227405312 ≤ b
      ·rw [if_pos hbi, decide_eq_true hbi]; rfl
      ·rw [if_neg hbi, decide_eq_false hbi]; rfl
     have hxb : 0 ≤ xi := by omega
     replace hIo := hid hIo
     have hov' := hid hov
     have hxi' := hid hxi
     clear hov hxi
     go_wp2_with fail
     refine hset2.out.mono ?_
     rintro e4 w4 ⟨rfl, ⟨cc, hcF, hcS⟩, hB5⟩
     have hD4 := hid (hdec.out _ _ _ hcF hcS)
     have hB34 := hB4.out.trans hB5
     have hg4 := hid (show Gt w3.heap.size w4 from hT3.out.gt.on hB34)
     have hf2 := hid (hfbt.out w3.heap.size w4 hD4.out w3.heap.size (Nat.le_refl _) hg4.out)
     have hB34' := hid hB34
     clear hB34 hB5
     replace hcF := hid hcF
     replace hcS := hid hcS
     go_wp2_with fail
     refine hf2.out.mono ?_
     rintro e5 w5 ⟨rfl, hB6⟩
     have hB7 := hid (hB3'.out.trans ((hB34'.out.trans hB6).mono hB3'.out.size))
     replace hB6 := hid hB6
     cases ov
     ·obtain rfl : I = .nilIface := by have := hIo.out; simpa using this
      clear hIo
      go_wp2_with fail
      go_ret3
      exact ⟨hfin.out, hB7.out⟩
     ·obtain rfl : I = .iface 144 (.int .i64 1) := by have := hIo.out; simpa using this
      clear hIo
      go_wp2_with fail
      go_ret3
      exact ⟨hfin.out, hB7.out⟩
    ·have hmm : min r1 9218868437227405312 = min r2 9218868437227405312 := of_decide_eq_true hc.symm
     have hXX : X1 = X := by rw [hX1, hX]; omega
     have hII : I1 = I := by
      rw [hI1, hI]
      by_cases hbi : 9218868437227405312 ≤ b
      ·rw [if_pos hbi, if_pos (by omega)]
      ·rw [if_neg hbi, if_neg (by omega)]
     subst hXX hII
     clear hX hI hb hlo hhi hsame hd64 hdb hdb1 he hd htr hneg hh hDl hB10 hC10 hd0 hsI heg hX1 hI1 hX2 hI2 hc hmm hr1 hr2
     go_enter Tryz.func161, Tryz.ntmps161
     go_wp2_with (first | (go_at_call 193; refine hsp.out.mono ?_; rintro e w' ⟨rfl, rfl⟩) | (go_at_call 194; refine hrf.out.mono ?_; rintro e w' ⟨rfl, rfl⟩) | (go_at_call 202; refine hbo.out.mono ?_; rintro e w' ⟨rfl, rfl⟩))
     refine (hp1.out w hTT.out.pw).mono ?_
     rintro e2 w2 ⟨rfl, hB2⟩
     have hT2 := hid (hTT.out.on hB2)
     have hB2' := hid hB2
     clear hB2
     go_wp2_with fail
     refine (hp2.out w2 hT2.out.pw).mono ?_
     rintro e3 w3 ⟨rfl, hB3⟩
     have hB3' := hid (hB2'.out.trans (hB3.mono hB2'.out.size))
     clear hB3
     go_wp2_with fail
     go_ret3
     exact ⟨hfin.out, hB3'.out⟩
def At32 (neg : Bool) (b n : Nat) (e : Ending) : Prop := e = .returned (.tuple #[.float .f32 (sg32 neg + min b 2139095040), .int .i64 (n : Int), if 2139095040 ≤ b then .iface 144 (.int .i64 1) else .nilIface])
theorem at32_intro (neg : Bool) (b n X : Nat) (I : Value) (hX : X = sg32 neg + min b 2139095040) (hI : I = if 2139095040 ≤ b then Value.iface 144 (.int .i64 1) else .nilIface) : At32 neg b n (.returned (.tuple #[.float .f32 X, .int .i64 (n : Int), I])) := by
 unfold At32
 rw [hX, hI]
theorem parse199r (neg : Bool) (d : Nat) (hd0 : d ≠ 0) (hd : d < 18446744073709551616) (k : Int) (hk : -345 ≤ k ∧ k ≤ 310) (w : World) (hw : Pw w) :
  Calls Tryz.prog 199 #[.int .u64 d, .int .i64 k, .int .u32 (sg32 neg : Int)] w fun e w' => e = .returned (.tuple #[.float .f32 (sg32 neg + min (rdV 23 149 10 d k) 2139095040), if 2139095040 ≤ rdV 23 149 10 d k then .iface 144 (.int .i64 1) else .nilIface]) ∧ Below w.heap.size w w' := by
 obtain ⟨i, hi⟩ : ∃ i : Nat, (i : Int) = k + 348 := ⟨(k + 348).toNat, by omega⟩
 have hil : i < 696 := by omega
 obtain ⟨x, hx⟩ : ∃ x, Go.Pinned.pow10Rows[i]? = some x := ⟨_, List.getElem?_eq_getElem (by rw [rows_len]; exact hil)⟩
 refine (parse199 neg d i hd0 hd hil x hx k _ (by omega) rfl w hw).mono ?_
 rintro e w' ⟨b, hb, he, hB⟩
 have hr : rdV 23 149 10 d k = b := by
  unfold rdV
  rw [show k.toNat = i - 348 by omega, show (-k).toNat = 348 - i by omega]
  exact nr_eq (Nat.pow_pos (by decide)) hb
 rw [hr]
 exact ⟨he, hB⟩
theorem atof160 (s : ByteArray) (hs : s.size ≤ 64) (g : Fig) (hg : g.Ok) (ht : bI s = g.txt) (w : World) (hT : Tb w) :
  Calls Tryz.prog 160 #[.string s] w fun e w' => At32 g.neg (rdV 23 149 g.B g.M (g.p 10000)) s.size e ∧ Below w.heap.size w w' := by
 obtain ⟨b, hb⟩ : ∃ b, b = rdV 23 149 g.B g.M (g.p 10000) := ⟨_, rfl⟩
 obtain ⟨R, hR⟩ : ∃ R, R = At32 g.neg b s.size := ⟨_, rfl⟩
 rw [← hb, ← hR]
 have hsp := hid (special_fig s g hg ht w)
 have hrf := hid (read194 s hs g hg ht w)
 unfold E194 at hrf
 obtain ⟨e, he⟩ : ∃ e, e = if g.d = 0 then 0 else g.e := ⟨_, rfl⟩
 obtain ⟨d, hd⟩ : ∃ d, d = g.d := ⟨_, rfl⟩
 obtain ⟨t, htr⟩ : ∃ t, t = g.t := ⟨_, rfl⟩
 obtain ⟨neg, hneg⟩ : ∃ neg, neg = g.neg := ⟨_, rfl⟩
 obtain ⟨h, hh⟩ : ∃ h, h = g.hex := ⟨_, rfl⟩
 rw [← he, ← hd, ← htr, ← hneg, ← hh] at hrf
 rw [← hneg] at hR
 have hTT := hid hT
 have hop := hT.op
 have hDl : g.D.length ≤ s.size := D_le hg ht
 replace hR := hid hR
 clear hT
 by_cases hx : h = true
 ·subst hx
  obtain ⟨N, D, hD0, hrd, hsx, hbg⟩ := hg.hexin hh.symm 23 149
  rw [← hb] at hrd
  rw [← he, ← hd, ← htr] at hsx
  rw [← htr, ← hd] at hbg
  have heb := hg.e_bd (by omega)
  have hdb := hg.d_64.1
  rw [← hd] at hdb
  have heb2 : -300000 ≤ e ∧ e ≤ 300000 := by rw [he]; split <;> omega
  have hcall := fun s0 => hex195_32 s0 d e neg t N D hD0 hsx hbg hdb heb2 w hTT.out.gt.2.1
  rw [← hrd] at hcall
  obtain ⟨X, hX⟩ : ∃ X, X = sg32 neg + min b 2139095040 := ⟨_, rfl⟩
  obtain ⟨I, hI⟩ : ∃ I : Value, I = if 2139095040 ≤ b then Value.iface 144 (.int .i64 1) else .nilIface := ⟨_, rfl⟩
  unfold HX32 at hcall
  rw [← hX, ← hI] at hcall
  have hfin := hid (show R (.returned (.tuple #[.float .f32 X, .int .i64 (s.size : Int), I])) by rw [hR.out]; exact at32_intro _ _ _ _ _ hX hI)
  replace hcall := hid hcall
  clear hX hI hb hbg hsx heb hdb heb2 hrd he hd htr hneg hh hDl
  go_enter Tryz.func160, Tryz.ntmps160
  go_wp2_with (first | (go_at_call 193; refine hsp.out.mono ?_; rintro e w' ⟨rfl, rfl⟩) | (go_at_call 194; refine hrf.out.mono ?_; rintro e w' ⟨rfl, rfl⟩))
  refine (hcall.out _).mono ?_
  rintro e2 w2 ⟨⟨y, hWd, rfl⟩, hB2⟩
  have hcv : ∀ w, (convert 22 61 (.float .f64 y)).run Tryz.prog w = .ok (.float .f32 X) w := fun w => run_convert_float_float w 22 61 .f64 .f32 _ _ (by kernel_rfl) (by kernel_rfl) hWd.2
  replace hB2 := hid hB2
  clear hWd
  go_wp2_with (rw [hcv])
  go_ret3
  exact ⟨hfin.out, hB2.out⟩
 ·obtain rfl : h = false := by simpa using hx
  have hB10 : g.B = 10 := by unfold Fig.B; rw [← hh]; rfl
  have hC10 : g.C = 10 := by unfold Fig.C; rw [← hh]; rfl
  have hlo := hg.lo 23 149
  have hhi := hg.hi 23 149
  have hsame := hg.same 23 149
  rw [hB10] at hb hlo hhi hsame
  rw [← hb, ← hd] at hlo hhi hsame
  rw [← htr] at hsame
  have hd64 := hg.d_64
  rw [← hd, ← hh] at hd64
  have hdb := hd64.1
  have hdb1 := hd64.2 rfl
  have heb := hg.e_bd (by omega)
  obtain ⟨X, hX⟩ : ∃ X, X = sg32 neg + min b 2139095040 := ⟨_, rfl⟩
  obtain ⟨I, hI⟩ : ∃ I : Value, I = if 2139095040 ≤ b then Value.iface 144 (.int .i64 1) else .nilIface := ⟨_, rfl⟩
  have hfin := hid (show R (.returned (.tuple #[.float .f32 X, .int .i64 (s.size : Int), I])) by rw [hR.out]; exact at32_intro _ _ _ _ _ hX hI)
  obtain ⟨nb, hnb⟩ : ∃ nb : Int, nb = if neg then 1 else 0 := ⟨_, rfl⟩
  obtain ⟨sI, hsI⟩ : ∃ sI : Int, sI = (sg32 neg : Int) := ⟨_, rfl⟩
  have hsIv : sI = 0 ∨ sI = 2147483648 := by rw [hsI]; cases neg <;> simp [sg32]
  have hsh : nb * 2147483648 = sI := by rw [hnb, hsI]; cases neg <;> simp [sg32]
  have hnb1 : 0 ≤ nb := by rw [hnb]; split <;> omega
  have hnb2 : nb ≤ 1 := by rw [hnb]; split <;> omega
  have hsI1 : 0 ≤ sI := by omega
  have hsI2 : sI ≤ 2147483648 := by omega
  have hwr : IntKind.u32.wrap sI = sI := IntWalk.u32_in _ (by omega)
  have hbo := hid (bool196 neg w)
  rw [← hnb] at hbo
  have hor0 : bits .or .u32 sI 0 = sI := by rcases hsIv with h | h <;> rw [h] <;> kernel_rfl
  have hkc := call197
  replace hnb := hid hnb
  by_cases hd0 : d = 0
  ·have hb0 : b = 0 := by rw [hb, hg.nought (by rw [← hd]; exact hd0), rdV_zero _ _ _ _ (by decide)]
   have hXn : sI.toNat = X := by rw [hX, hb0, hsI]; simp
   have hIn : I = .nilIface := by rw [hI, hb0]; rfl
   have hdz : ((d : Int) == 0) = true := beq_iff_eq.2 (by omega)
   subst hIn
   replace hsIv := hid hsIv
   clear hX hI hb hlo hhi hsame hd64 hdb hdb1 heb he hd htr hneg hh hDl hB10 hC10 hd0 hb0 hsI
   go_enter Tryz.func160, Tryz.ntmps160
   go_wp2_with (first | (go_at_call 193; refine hsp.out.mono ?_; rintro e w' ⟨rfl, rfl⟩) | (go_at_call 194; refine hrf.out.mono ?_; rintro e w' ⟨rfl, rfl⟩) | (go_at_call 196; refine hbo.out.mono ?_; rintro e w' ⟨rfl, rfl⟩))
   go_ret3
   exact ⟨hfin.out, Below.refl _ _⟩
  ·have heg : e = g.e := by rw [he, if_neg (by rw [← hd]; exact hd0)]
   rw [← heg] at hlo hhi hsame heb
   have hdz : ((d : Int) == 0) = false := beq_eq_false_iff_ne.2 (by omega)
   by_cases hhi2 : 40 < e
   ·have hbI : 2139095040 ≤ b := Nat.le_trans (rd32_high hd0 hhi2) hlo
    obtain ⟨s2, hs2⟩ : ∃ s2 : Int, s2 = sI + 2139095040 := ⟨_, rfl⟩
    have hor : bits .or .u32 sI 2139095040 = s2 := by rw [hs2]; rcases hsIv with h | h <;> rw [h] <;> kernel_rfl
    have hXn : s2.toNat = X := by rw [hX, Nat.min_eq_right hbI, hs2, hsI]; exact Int.toNat_natCast _
    replace hs2 := hid hs2
    have hIn : I = .iface 144 (.int .i64 1) := by rw [hI, if_pos hbI]
    subst hIn
    replace hsIv := hid hsIv
    clear hX hI hb hlo hhi hsame hd64 hdb hdb1 he hd htr hneg hh hDl hB10 hC10 hd0 hbI hsI heg
    go_enter Tryz.func160, Tryz.ntmps160
    go_wp2_with (first | (go_at_call 193; refine hsp.out.mono ?_; rintro e w' ⟨rfl, rfl⟩) | (go_at_call 194; refine hrf.out.mono ?_; rintro e w' ⟨rfl, rfl⟩) | (go_at_call 196; refine hbo.out.mono ?_; rintro e w' ⟨rfl, rfl⟩))
    go_ret3
    exact ⟨hfin.out, Below.refl _ _⟩
   by_cases hlo2 : e < -70
   ·have hb0 : b = 0 := by
     have := rd32_low (M := d + 1) (by omega) hlo2
     omega
    have hXn : sI.toNat = X := by rw [hX, hb0, hsI]; simp
    have hIn : I = .nilIface := by rw [hI, hb0]; rfl
    subst hIn
    replace hsIv := hid hsIv
    clear hX hI hb hlo hhi hsame hd64 hdb hdb1 he hd htr hneg hh hDl hB10 hC10 hd0 hb0 hsI heg
    go_enter Tryz.func160, Tryz.ntmps160
    go_wp2_with (first | (go_at_call 193; refine hsp.out.mono ?_; rintro e w' ⟨rfl, rfl⟩) | (go_at_call 194; refine hrf.out.mono ?_; rintro e w' ⟨rfl, rfl⟩) | (go_at_call 196; refine hbo.out.mono ?_; rintro e w' ⟨rfl, rfl⟩))
    go_ret3
    exact ⟨hfin.out, Below.refl _ _⟩
   have hp1 := hid (fun wx (hw : Pw wx) => parse199r neg d hd0 hdb e ⟨by omega, by omega⟩ wx hw)
   rw [← hsI] at hp1
   obtain ⟨X1, hX1⟩ : ∃ X1, X1 = sg32 neg + min (rdV 23 149 10 d e) 2139095040 := ⟨_, rfl⟩
   obtain ⟨I1, hI1⟩ : ∃ I1 : Value, I1 = if 2139095040 ≤ rdV 23 149 10 d e then Value.iface 144 (.int .i64 1) else .nilIface := ⟨_, rfl⟩
   rw [← hX1, ← hI1] at hp1
   have he1 : ¬ 40 < e := hhi2
   have he2 : ¬ e < -70 := hlo2
   cases t
   ·have hbs := hsame rfl
    have hex := hid (exact198 neg d hd0 hdb e ⟨by omega, by omega⟩ w hTT.out.f32)
    have hXX : X1 = X := by rw [hX1, hX, hbs]
    have hII : I1 = I := by rw [hI1, hI, hbs]
    subst hXX hII
    have hokI : Hid (e ≤ 18 → I1 = .nilIface) := hid (fun hk => by
     rw [hI1, if_neg]
     have hfi : rdV 23 149 10 d e < 2139095040 := by
      by_cases h0 : 0 ≤ e
      ·obtain ⟨n, rfl⟩ : ∃ n : Nat, e = (n : Int) := ⟨e.toNat, by omega⟩
       refine rdV_fin val_inf32 ?_
       have h5 : 10 ^ n ≤ 10 ^ 18 := Nat.pow_le_pow_right (by decide) (by omega)
       have h6 : d * 10 ^ n ≤ 18446744073709551616 * 10 ^ 18 := Nat.mul_le_mul (by omega) h5
       have h7 : 2 * (18446744073709551616 * 10 ^ 18) < 2 ^ 128 := Nat.lt_of_succ_le (Nat.le_of_ble_eq_true (by kernel_rfl))
       omega
      ·have h5 : rdV 23 149 10 d e ≤ rdV 23 149 10 d 0 := by
        unfold rdV
        rw [show e.toNat = 0 by omega, show (0 : Int).toNat = 0 from rfl, show (-(0 : Int)).toNat = 0 from rfl]
        exact nr_den (Nat.pow_pos (by decide))
       have h6 := rdV_fin (d := d) (k := 0) val_inf32 (by
        rw [Nat.pow_zero, Nat.mul_one]
        exact Nat.lt_of_lt_of_le (show 2 * d < 2 ^ 65 by omega) (Nat.pow_le_pow_right (by decide) (by decide)))
       exact Nat.lt_of_le_of_lt h5 h6
     omega)
    replace hsIv := hid hsIv
    have hX' := hid hX1
    have hI' := hid hI1
    clear hX hI hb hlo hhi hsame hd64 hdb hdb1 he hd htr hneg hh hDl hB10 hC10 hd0 hsI heg hX1 hI1 hbs
    go_enter Tryz.func160, Tryz.ntmps160
    go_wp2_with (first | (go_at_call 193; refine hsp.out.mono ?_; rintro e w' ⟨rfl, rfl⟩) | (go_at_call 194; refine hrf.out.mono ?_; rintro e w' ⟨rfl, rfl⟩) | (go_at_call 196; refine hbo.out.mono ?_; rintro e w' ⟨rfl, rfl⟩))
    refine hex.out.mono ?_
    rintro e2 w2 ⟨⟨X2, ok, rfl, k1, k2⟩, rfl⟩
    cases ok
    ·clear k1 k2
     go_wp2_with fail
     refine (hp1.out w hTT.out.pw).mono ?_
     rintro e2 w2 ⟨rfl, hB2⟩
     replace hB2 := hid hB2
     go_wp2_with fail
     go_ret3
     exact ⟨hfin.out, hB2.out⟩
    ·have hx2 : X2 = X1 := by rw [k1 rfl, hX'.out]
     have hi2 := hokI.out (k2 rfl)
     subst hx2
     rw [hi2] at hfin
     clear k1 k2 hi2
     go_wp2_with fail
     go_ret3
     exact ⟨hfin.out, Below.refl _ _⟩
   ·have hp2 := hid (fun wx (hw : Pw wx) => parse199r neg (d + 1) (by omega) hdb1 e ⟨by omega, by omega⟩ wx hw)
    rw [← hsI] at hp2
    obtain ⟨r1, hr1⟩ : ∃ r1, r1 = rdV 23 149 10 d e := ⟨_, rfl⟩
    obtain ⟨r2, hr2⟩ : ∃ r2, r2 = rdV 23 149 10 (d + 1) e := ⟨_, rfl⟩
    obtain ⟨X2, hX2⟩ : ∃ X2, X2 = sg32 neg + min (rdV 23 149 10 (d + 1) e) 2139095040 := ⟨_, rfl⟩
    obtain ⟨I2, hI2⟩ : ∃ I2 : Value, I2 = if 2139095040 ≤ rdV 23 149 10 (d + 1) e then Value.iface 144 (.int .i64 1) else .nilIface := ⟨_, rfl⟩
    rw [← hX2, ← hI2, show ((d + 1 : Nat) : Int) = (d : Int) + 1 from rfl] at hp2
    rw [← hr1] at hX1 hI1 hlo
    rw [← hr2] at hX2 hI2 hhi
    have hcmp : (FloatKind.f32.format.order X1 X2 == some Ordering.eq) = decide (min r1 2139095040 = min r2 2139095040) := by
     rw [hX1, hX2, sgw32, sgw32]
     exact fm_same fm32 (Nat.le_of_ble_eq_true (by kernel_rfl)) neg _ _ (by rw [inf32]; omega) (by rw [inf32]; omega)
    obtain ⟨c, hc⟩ : ∃ c, c = decide (min r1 2139095040 = min r2 2139095040) := ⟨_, rfl⟩
    rw [← hc] at hcmp
    have hdw : IntKind.u64.wrap ((d : Int) + 1) = (d : Int) + 1 := IntWalk.u64_in _ (by omega)
    replace hsIv := hid hsIv
    have hsp' := hsp
    cases c
    ·have hcmp' := hid hcmp
     have hM0 : g.M ≠ 0 := by
      have h1 := hg.kept.1
      rw [← hd] at h1
      intro h2
      rw [h2] at h1
      have h3 : 1 * 1 ≤ d * g.C ^ g.lost := Nat.mul_le_mul (by omega) (Nat.pow_pos (by rw [hC10]; decide))
      omega
     have hpe : g.p 10000 = e - (g.lost : Int) := by
      rw [heg]; unfold Fig.e Fig.q; rw [← hh]; simp
     have hlost : g.lost ≤ 64 := by unfold Fig.lost; have := kN_le g.D; omega
     have hset := hid (fun B wx hw n0 hn => set200 B s hs g hg hh.symm ht wx hw n0 hn)
     rw [← hneg] at hset
     have hhd := hg.ds_head hh.symm hM0
     have hkN : kN g.D ≤ 64 := by have := kN_le g.D; omega
     have hdsl : g.ds.length ≤ 64 := by rw [g.ds_len]; exact hkN
     have hval := hg.ds_val hh.symm (g.p 10000)
     have hfbt := hid (fun B wx hw n0 hn hgt => bits201_32 B g.ds ((kN g.D : Int) + g.p 10000) neg wx hw hhd (g.M * 10 ^ (g.p 10000).toNat) (10 ^ (-(g.p 10000)).toNat) (Nat.pow_pos (by decide)) hval (g.p 10000) (by rw [g.ds_len]) hdsl (fun e f hf => fig_dvd g.M e f (g.p 10000) hf) ⟨by omega, by omega⟩ n0 hn hgt)
     have hrb : nr 23 (g.M * 10 ^ (g.p 10000).toNat * 2 ^ 149) (10 ^ (-(g.p 10000)).toNat) = b := by rw [hb]; rfl
     rw [hrb] at hfbt
     have hdec : ∀ B wx c, Fn wx B c → SD g.D ((kN g.D : Int) + g.p 10000) neg c → Dec wx B g.ds ((kN g.D : Int) + g.p 10000) neg := fun B wx c h1 h2 => ⟨c, h1, by
      refine ⟨fun i hi => ?_, by rw [g.ds_len]; exact h2.nd, h2.dp, h2.ng, h2.tr, by omega, hg.ds_nine hh.symm⟩
      have hi2 : i < (dropZ g.D).length := by rw [g.ds_len] at hi; exact hi
      rw [h2.dg i hi2]
      have h4 := hg.pDD (dropZ g.D)[i] ((List.dropWhile_suffix _).subset (List.getElem_mem hi2))
      rw [← hh] at h4
      have h5 := (hxv_9 h4).2
      have h6 : g.ds[i] = hxv (dropZ g.D)[i] := by simp [Fig.ds]
      rw [h6]
      exact val_int (by omega)⟩
     have hXs : X = sg32 neg + min b 2139095040 := hX
     replace hdec := hid hdec
     clear hX1 hI1 hX2 hI2 hlo hhi hsame hd64 hdb hdb1 he hd htr hneg hh hDl hB10 hC10 hd0 hsI heg hc hcmp hM0 hpe hlost hhd hkN hdsl hval hrb hr1 hr2 hb
     replace hX := hid hX
     replace hXs := hid hXs
     replace hI := hid hI
     have hcm := hcmp'.out
     go_enter Tryz.func160, Tryz.ntmps160
     go_wp2_with (first | (go_at_call 193; refine hsp.out.mono ?_; rintro e w' ⟨rfl, rfl⟩) | (go_at_call 194; refine hrf.out.mono ?_; rintro e w' ⟨rfl, rfl⟩) | (go_at_call 196; refine hbo.out.mono ?_; rintro e w' ⟨rfl, rfl⟩))
     refine (hp1.out w hTT.out.pw).mono ?_
     rintro e2 w2 ⟨rfl, hB2⟩
     have hT2 := hid (hTT.out.on hB2)
     have hB2' := hid hB2
     clear hB2
     go_wp2_with fail
     refine (hp2.out w2 hT2.out.pw).mono ?_
     rintro e3 w3 ⟨rfl, hB3⟩
     have hT3 := hid (hT2.out.on hB3)
     have hB3' := hid (hB2'.out.trans (hB3.mono hB2'.out.size))
     clear hB3
     have hset2 := hid (hset.out w3.heap.size _ (fn_zero w3) w3.heap.size (Nat.le_refl _))
     have hB4 := hid ((Below.refl w3.heap.size w3).alloc (Nat.le_refl _) (.cells Tryz.zeroCells177 177))
     obtain ⟨ov, hov⟩ : ∃ ov, ov = decide (2139095040 ≤ b) := ⟨_, rfl⟩
     obtain ⟨xi, hxi⟩ : ∃ xi : Int, xi = ((sg32 neg + min b 2139095040 : Nat) : Int) := ⟨_, rfl⟩
     rw [← hov, ← hxi] at hfbt
     have hXi : xi.toNat = X := by rw [hxi, hXs.out]; rfl
     have hIo : I = if ov then Value.iface 144 (.int .i64 1) else .nilIface := by
      rw [hI.out, hov]
      by_cases hbi : 2139095040 ≤ b
      ·rw [if_pos hbi, decide_eq_true hbi]; rfl
      ·rw [if_neg hbi, decide_eq_false hbi]; rfl
     have hxb : 0 ≤ xi := by omega
     have hxw : IntKind.u32.wrap xi = xi := IntWalk.u32_in _ (by rcases sg32_cases neg with h | h <;> omega)
     replace hIo := hid hIo
     have hov' := hid hov
     have hxi' := hid hxi
     clear hov hxi
     go_wp2_with fail
     refine hset2.out.mono ?_
     rintro e4 w4 ⟨rfl, ⟨cc, hcF, hcS⟩, hB5⟩
     have hD4 := hid (hdec.out _ _ _ hcF hcS)
     have hB34 := hB4.out.trans hB5
     have hg4 := hid (show Gt w3.heap.size w4 from hT3.out.gt.on hB34)
     have hf2 := hid (hfbt.out w3.heap.size w4 hD4.out w3.heap.size (Nat.le_refl _) hg4.out)
     have hB34' := hid hB34
     clear hB34 hB5
     replace hcF := hid hcF
     replace hcS := hid hcS
     go_wp2_with fail
     refine hf2.out.mono ?_
     rintro e5 w5 ⟨rfl, hB6⟩
     have hB7 := hid (hB3'.out.trans ((hB34'.out.trans hB6).mono hB3'.out.size))
     replace hB6 := hid hB6
     cases ov
     ·obtain rfl : I = .nilIface := by have := hIo.out; simpa using this
      clear hIo
      go_wp2_with fail
      go_ret3
      exact ⟨hfin.out, hB7.out⟩
     ·obtain rfl : I = .iface 144 (.int .i64 1) := by have := hIo.out; simpa using this
      clear hIo
      go_wp2_with fail
      go_ret3
      exact ⟨hfin.out, hB7.out⟩
    ·have hmm : min r1 2139095040 = min r2 2139095040 := of_decide_eq_true hc.symm
     have hXX : X1 = X := by rw [hX1, hX]; omega
     have hII : I1 = I := by
      rw [hI1, hI]
      by_cases hbi : 2139095040 ≤ b
      ·rw [if_pos hbi, if_pos (by omega)]
      ·rw [if_neg hbi, if_neg (by omega)]
     subst hXX hII
     clear hX hI hb hlo hhi hsame hd64 hdb hdb1 he hd htr hneg hh hDl hB10 hC10 hd0 hsI heg hX1 hI1 hX2 hI2 hc hmm hr1 hr2
     go_enter Tryz.func160, Tryz.ntmps160
     go_wp2_with (first | (go_at_call 193; refine hsp.out.mono ?_; rintro e w' ⟨rfl, rfl⟩) | (go_at_call 194; refine hrf.out.mono ?_; rintro e w' ⟨rfl, rfl⟩) | (go_at_call 196; refine hbo.out.mono ?_; rintro e w' ⟨rfl, rfl⟩))
     refine (hp1.out w hTT.out.pw).mono ?_
     rintro e2 w2 ⟨rfl, hB2⟩
     have hT2 := hid (hTT.out.on hB2)
     have hB2' := hid hB2
     clear hB2
     go_wp2_with fail
     refine (hp2.out w2 hT2.out.pw).mono ?_
     rintro e3 w3 ⟨rfl, hB3⟩
     have hB3' := hid (hB2'.out.trans (hB3.mono hB2'.out.size))
     clear hB3
     go_wp2_with fail
     go_ret3
     exact ⟨hfin.out, hB3'.out⟩
end
end Go.Proofs.YtlgneiaenanfaaaGreatDoor
