/- Walks and plain laws, merged: FrC FrD FrE. No condition. -/
import Derived.Test.YtlgneiaenanfaaaGreatDoorKq21
import Derived.Test.YtlgneiaenanfaaaGreatDoorKq14
namespace Go.Proofs.YtlgneiaenanfaaaGreatDoor
open Go.RowKit
set_option linter.unusedVariables false
set_option linter.unusedSimpArgs false
set_option maxRecDepth 100000
set_option maxHeartbeats 64000000
set_option exponentiation.threshold 70000
section
set_option maxRecDepth 100000
open Go
structure PL (w wr : World) (a b : List Int) (v : Value) (k cy : Nat) (o : List Int) : Prop where
 own : wr.ownsRow w.heap.size 34 1 v k (nv o)
 len : o.length = k
 lb : Lb o
 eq : natL o + 4294967296 ^ k * cy = natL (a.take k) + natL (b.take k)
 cy : cy ≤ 1
 be : Below w.heap.size w wr
theorem plus_ge (A B : Nat) (hA : Sm A) (hBA : (limbs B).length ≤ (limbs A).length) (v u : Value) (w : World) (hv : Nt w v A) (hu : Nt w u B) :
  Calls Tryz.prog 50 #[v, u] w (NtR w (A + B)) := by
 obtain ⟨ao, cap, b, off, rfl, hcap, hmax, hao, hc⟩ := hv.open
 obtain ⟨bo, cap2, b2, off2, rfl, hcap2, hmax2, hbo, hc2⟩ := hu.open
 clear hv hu
 unfold Sm at hA
 unfold maxLen at hmax hmax2
 have hend := hid (fun (o : List Int) (cy : Nat) (h1 : o.length = (limbs A).length) (h2 : Lb o) h3 h4 => pl_end (A := A) (B := B) (cy := cy) (o := o) h1 h2 hBA h3 h4)
 have hla := hid (limbs_Lb A)
 have hlb := hid (limbs_Lb B)
 generalize hga : limbs A = a at *
 generalize hgb : limbs B = bb at *
 replace hga := hid hga
 replace hgb := hid hgb
 obtain ⟨n, hn⟩ : ∃ n, n = a.length := ⟨_, rfl⟩
 obtain ⟨m, hm⟩ : ∃ m, m = bb.length := ⟨_, rfl⟩
 rw [← hn] at hA hcap hao hc hBA ⊢
 rw [← hm] at hcap2 hbo hc2 hBA ⊢
 replace hn := hid hn
 replace hm := hid hm
 have hdec : decide (n < m) = false := by simp; omega
 go_enter Tryz.func50, Tryz.ntmps50
 go_wp2
 clear hdec
 go_loopw [5, 6, 7] (fun v cy i wr => ∃ (k cyN : Nat) (o : List Int), i = .int .i64 k ∧ cy = .int .u64 cyN ∧ k ≤ n ∧ Hid (PL w wr a bb v k cyN o)) (fun _ _ i _ => n - (intOf i).toNat)
 case atStart => exact ⟨0, 0, [], rfl, rfl, Nat.zero_le _, hid ⟨World.ownsRow_nil _ _ _ _, rfl, fun x hx => by simp at hx, by simp [natL], by omega, Below.refl _ _⟩⟩
 case round =>
  obtain ⟨k, cy, o, rfl, rfl, hk, hT⟩ := hrel
  have hcy := hT.out.cy
  have hsz := hT.out.be.size
  have hown := hT.out.own
  by_cases hlt : k < n
  ·rcases hao with hn0 | rfl
   ·omega
   obtain ⟨x, hx1, hx2, hx3⟩ := limb_at hla.out (show k < a.length by rw [← hn.out]; exact hlt)
   have hcell := hc.out k hlt
   have hcell' := (hT.out.be.cell (World.block_lt_of_cell? w _ hcell)).trans hcell
   rw [hx1] at hcell'
   obtain ⟨s1, hs1⟩ : ∃ s1 : Nat, s1 = cy + x := ⟨_, rfl⟩
   have hs1i : (cy : Int) + (x : Int) = (s1 : Int) := by omega
   by_cases hlm : k < m
   ·rcases hbo with hn0 | rfl
    ·omega
    obtain ⟨y, hy1, hy2, hy3⟩ := limb_at hlb.out (show k < bb.length by rw [← hm.out]; exact hlm)
    have hdell := hc2.out k hlm
    have hdell' := (hT.out.be.cell (World.block_lt_of_cell? w _ hdell)).trans hdell
    rw [hy1] at hdell'
    obtain ⟨s2, hs2⟩ : ∃ s2 : Nat, s2 = s1 + y := ⟨_, rfl⟩
    have hs2i : (s1 : Int) + (y : Int) = (s2 : Int) := by omega
    have hst := pl_step (o := o) (a := a) (b := bb) (i := k) (cy := cy) (x := x) (y := y) (show k < a.length by rw [← hn.out]; exact hlt) hT.out.len hT.out.eq hx2 (Or.inl ⟨by rw [← hm.out]; exact hlm, hy2⟩)
    rw [show cy + x + y = s2 by omega] at hst
    have hs2b : s2 < 8589934592 := by omega
    have hst' := hid hst
    clear hst hcell hdell hx1 hx2 hy1 hy2
    replace hs1 := hid hs1
    replace hs2 := hid hs2
    go_wp2_with (at_builtin; go_must (refine wpList_append_new rfl _ _ 53 rfl w.heap.size 34 34 (.int .u32 0) 1 4 1 under53 info34 rfl (by decide) _ k _ [.int .u32 ((s2 % 4294967296 : Nat) : Int)] (0, 0) hown rfl (by simp [Value.oneCell']) (by unfold maxLen; omega) (by omega) hsz rfl rfl ?_); intro v' w1 hown' hb' _)
    go_roundw
    case rel => exact ⟨k + 1, s2 / 4294967296, o ++ [((s2 % 4294967296 : Nat) : Int)], by go_num, rfl, by omega, hid ⟨by rw [nv_app]; exact hown', by rw [List.length_append, hT.out.len]; rfl, hT.out.lb.snoc ⟨by omega, by omega⟩, hst'.out, by omega, hT.out.be.trans hb'⟩⟩
    case measure => simp [intOf]; omega
   ·have hst := pl_step (o := o) (a := a) (b := bb) (i := k) (cy := cy) (x := x) (y := 0) (show k < a.length by rw [← hn.out]; exact hlt) hT.out.len hT.out.eq hx2 (Or.inr ⟨by have := hm.out; omega, rfl⟩)
    rw [show cy + x + 0 = s1 by omega] at hst
    have hs2b : s1 < 8589934592 := by omega
    have hst' := hid hst
    clear hst hcell hx1 hx2
    replace hs1 := hid hs1
    go_wp2_with (at_builtin; go_must (refine wpList_append_new rfl _ _ 53 rfl w.heap.size 34 34 (.int .u32 0) 1 4 1 under53 info34 rfl (by decide) _ k _ [.int .u32 ((s1 % 4294967296 : Nat) : Int)] (0, 0) hown rfl (by simp [Value.oneCell']) (by unfold maxLen; omega) (by omega) hsz rfl rfl ?_); intro v' w1 hown' hb' _)
    go_roundw
    case rel => exact ⟨k + 1, s1 / 4294967296, o ++ [((s1 % 4294967296 : Nat) : Int)], by go_num, rfl, by omega, hid ⟨by rw [nv_app]; exact hown', by rw [List.length_append, hT.out.len]; rfl, hT.out.lb.snoc ⟨by omega, by omega⟩, hst'.out, by omega, hT.out.be.trans hb'⟩⟩
    case measure => simp [intOf]; omega
  ·obtain rfl : k = n := by omega
   have hend2 := hend.out o cy (by rw [hT.out.len]; exact hn.out) hT.out.lb (by rw [← hn.out]; exact hT.out.eq) hcy
   have hB := hid hT.out.be
   by_cases h0 : cy = 0
   ·have hlo := hT.out.len
    have hfin := hid (fun (v' : Value) (w1 : World) (h : w1.ownsRow w.heap.size 34 1 v' k (nv o)) => (show Nt w1 v' (A + B) by
     unfold Nt
     rw [← hend2.2 h0, hlo]
     exact own_base h (Nat.zero_le _)))
    have hown' := hid hown
    subst h0
    clear hend2 hT hcy hao hc hlt hn hown hlo
    go_wp2
    go_ret
    exact ⟨_, rfl, hfin.out _ _ hown'.out, hB.out⟩
   ·obtain rfl : cy = 1 := by omega
    have hlo := hT.out.len
    have hfin := hid (fun (v' : Value) (w1 : World) (h : w1.ownsRow w.heap.size 34 1 v' (k + 1) (nv o ++ [.int .u32 1])) => (show Nt w1 v' (A + B) by
     unfold Nt
     rw [← hend2.1 rfl, List.length_append, hlo, nv_app]
     exact own_base h (Nat.zero_le _)))
    clear hend2 hT hcy hao hc hlt hn hlo h0
    go_wp2_with (at_builtin; go_must (refine wpList_append_new rfl _ _ 53 rfl w.heap.size 34 34 (.int .u32 0) 1 4 1 under53 info34 rfl (by decide) _ k _ [.int .u32 1] (0, 0) hown rfl (by simp [Value.oneCell']) (by unfold maxLen; omega) (by omega) hsz rfl rfl ?_); intro v' w1 hown' hb' _)
    go_ret
    exact ⟨_, rfl, hfin.out _ _ hown', hB.out.trans hb'⟩
theorem plus50 (A B : Nat) (hA : Sm A) (hB : Sm B) (v u : Value) (w : World) (hv : Nt w v A) (hu : Nt w u B) :
  Calls Tryz.prog 50 #[v, u] w (NtR w (A + B)) := by
 by_cases hle : (limbs B).length ≤ (limbs A).length
 ·exact plus_ge A B hA hle v u w hv hu
 ·have hp := plus_ge B A hB (by omega) u v w hu hv
  rw [Nat.add_comm B A] at hp
  obtain ⟨ao, cap, b, off, rfl, hcap, hmax, hao, hc⟩ := hv.open
  obtain ⟨bo, cap2, b2, off2, rfl, hcap2, hmax2, hbo, hc2⟩ := hu.open
  clear hv hu hao hc hbo hc2
  unfold maxLen at hmax hmax2
  replace hp := hid hp
  have hlt : (limbs A).length < (limbs B).length := by omega
  go_enter Tryz.func50, Tryz.ntmps50
  go_wp2_with fail
  refine hp.out.mono ?_
  rintro e w1 ⟨v1, rfl, h1, h2⟩
  have h1' := hid h1
  clear h1
  go_wp2_with fail
  go_ret
  exact ⟨_, rfl, h1'.out, h2⟩
theorem Sm_mul10 {N n : Nat} {K : Nat} (h : N * 10 ^ n < 2 ^ K) (hK : K ≤ 60000) {j : Nat} (hj : j ≤ n) : Sm (N * 10 ^ j) := Sm_of (Nat.lt_of_le_of_lt (Nat.mul_le_mul_left _ (Nat.pow_le_pow_right (by decide) hj)) h) hK
def TenR (w : World) (A n : Nat) (v : Value) (i : Value) (wr : World) : Prop := ∃ (k j : Nat), i = .int .i64 (k : Int) ∧ k + j = n ∧ Nt wr v (A * 10 ^ j) ∧ Below w.heap.size w wr
theorem tens81 (A n K : Nat) (hs : A * 10 ^ n < 2 ^ K) (hK : K ≤ 60000) (hn : n ≤ 100000) (v : Value) (w : World) (hv : Nt w v A) : Calls Tryz.prog 81 #[v, .int .i64 n] w (NtR w (A * 10 ^ n)) := by
 have hts := hid (fun (j : Nat) (hj : j ≤ n) (v : Value) (w : World) (h : Nt w v (A * 10 ^ j)) => times84 (A * 10 ^ j) 1000000000 0 (by decide) (by decide) (Sm_mul10 hs hK hj) v w h)
 have htt := hid (fun (j : Nat) (hj : j ≤ n) (v : Value) (w : World) (h : Nt w v (A * 10 ^ j)) => times84 (A * 10 ^ j) 10 0 (by decide) (by decide) (Sm_mul10 hs hK hj) v w h)
 have hvv := hid hv
 replace hs := hid hs
 go_enter Tryz.func81, Tryz.ntmps81
 go_wp2_with fail
 go_loopw [0, 1] (fun v i wr => TenR w A n v i wr) (fun _ i _ => (intOf i).toNat)
 case atStart => exact ⟨n, 0, rfl, rfl, by rw [Nat.pow_zero, Nat.mul_one]; exact hvv.out, Below.refl _ _⟩
 case round =>
  obtain ⟨k, j, rfl, hkj, hN, hB⟩ := hrel
  have hkn : k ≤ n := by omega
  by_cases h9 : 9 ≤ k
  ·have ht := hid (hts.out j (by omega) _ wr hN)
   have hj := hid hkj
   clear hkj
   replace hN := hid hN
   replace hB := hid hB
   go_wp2_with fail
   refine ht.out.mono ?_
   rintro e w1 ⟨v1, rfl, h1, h2⟩
   have h1' := hid h1
   replace h2 := hid h2
   clear h1
   go_wp2_with fail
   go_roundw
   case rel => exact ⟨k - 9, j + 9, val_int (by omega), by have := hj.out; omega, by have h3 := h1'.out; rw [Nat.add_zero, Nat.mul_assoc] at h3; rw [Nat.pow_add]; exact h3, hB.out.trans (h2.out.mono hB.out.size)⟩
   case measure => simp [intOf]; omega
  ·have hj := hid hkj
   clear hkj
   replace hN := hid hN
   replace hB := hid hB
   have h9' : (k : Int) < 9 := by omega
   go_wp2_with fail
   go_loopw [0, 1] (fun v i wr => TenR w A n v i wr) (fun _ i _ => (intOf i).toNat)
   case atStart => exact ⟨k, j, rfl, hj.out, hN.out, hB.out⟩
   case round =>
    obtain ⟨k2, j2, rfl, hkj, hN2, hB2⟩ := hrel
    have hkn2 : k2 ≤ n := by omega
    have hj2 := hid hkj
    clear hkj
    by_cases h0 : k2 = 0
    ·subst h0
     have hfin := hid (show ∀ v, Nt wr v (A * 10 ^ j2) → Nt wr v (A * 10 ^ n) from fun v h => by have := hj2.out; rw [show n = j2 by omega]; exact h)
     replace hN2 := hid hN2
     replace hB2 := hid hB2
     go_wp2_with fail
     go_ret
     exact ⟨_, rfl, hfin.out _ hN2.out, hB2.out⟩
    ·have ht := hid (htt.out j2 (by have := hj2.out; omega) _ wr hN2)
     replace hN2 := hid hN2
     replace hB2 := hid hB2
     have h0' : 0 < k2 := by omega
     clear h0
     go_wp2_with fail
     refine ht.out.mono ?_
     rintro e w1 ⟨v1, rfl, h1, h2⟩
     have h1' := hid h1
     replace h2 := hid h2
     clear h1
     go_wp2_with fail
     go_roundw
     case rel => exact ⟨k2 - 1, j2 + 1, val_int (by omega), by have := hj2.out; omega, by have h3 := h1'.out; rw [Nat.add_zero, Nat.mul_assoc] at h3; rw [Nat.pow_succ]; exact h3, hB2.out.trans (h2.out.mono hB2.out.size)⟩
     case measure => simp [intOf]; omega
end
section
set_option maxRecDepth 100000
open Go
theorem Nt.src {w : World} {v : Value} {N : Nat} (h : Nt w v N) (h0 : N ≠ 0) : ∃ ad cap, v = .slice (some ad) (limbs N).length cap ∧ Hid (∀ j u, (nv (limbs N))[j]? = some u → w.cell? (ad.add j) = some u) ∧ 0 < (limbs N).length := by
 have hp : 0 < (limbs N).length := List.length_pos_iff.2 (fun e => h0 (limbs_nil.1 e))
 obtain ⟨ao, cap, e, hi, _, _, _⟩ := ints_of_own h (wf_limb (limbs_Lb N))
 rcases hi.cell with h1 | ⟨b, off, rfl, _⟩
 ·omega
 ·exact ⟨_, cap, e, hi.news, hp⟩
theorem Nt.nil (w : World) : Nt w (.slice none 0 0) 0 := by
 unfold Nt
 rw [limbs_zero]
 exact World.ownsRow_nil _ _ _ _
theorem nv_zeros (k : Nat) : nv (List.replicate (k + 1) 0) = nv (List.replicate k 0) ++ [.int .u32 0] := by
 rw [List.replicate_succ', nv_app]; rfl
theorem shl_u32 (r : Nat) (hr : r < 32) : 2 ^ r < 4294967296 := Nat.pow_lt_pow_right (by decide) (show r < 32 from hr)
theorem twos80 (A n K : Nat) (hs : A * 2 ^ n < 2 ^ K) (hK : K ≤ 60000) (v : Value) (w : World) (hv : Nt w v A) : Calls Tryz.prog 80 #[v, .int .i64 n] w (NtR w (A * 2 ^ n)) := by
 by_cases hA0 : A = 0
 ·subst hA0
  have hfin := hid (show Nt w (.slice none 0 0) (0 * 2 ^ n) by rw [Nat.zero_mul]; exact Nt.nil w)
  obtain ⟨ao, cap, b, off, rfl, hcap, hmax, hao, hc⟩ := hv.open
  rw [limbs_zero] at hcap hao hc ⊢
  clear hv hs hao hc hcap
  go_enter Tryz.func80, Tryz.ntmps80
  go_wp2
  go_ret
  exact ⟨_, rfl, hfin.out, Below.refl _ _⟩
 ·have hnK : n < K := by
   have h1 : 1 * 2 ^ n ≤ A * 2 ^ n := Nat.mul_le_mul_right _ (by omega)
   exact (Nat.pow_lt_pow_iff_right (by decide : 1 < 2)).1 (by omega)
  obtain ⟨q, hq⟩ : ∃ q, q = n / 32 := ⟨_, rfl⟩
  obtain ⟨r, hr⟩ : ∃ r, r = n % 32 := ⟨_, rfl⟩
  have hqi : (n : Int) / 32 = (q : Int) := by omega
  have hri : (n : Int) % 32 = (r : Int) := by omega
  have hr32 : r < 32 := by omega
  have hp2 := shl_u32 r hr32
  have hSA : Sm A := Sm_of (Nat.lt_of_le_of_lt (Nat.le_mul_of_pos_right A (Nat.pow_pos (by decide))) hs) hK
  have hts := hid (fun (w1 : World) (h : Nt w1 v A) => times84 A (2 ^ r) 0 hp2 (by decide) hSA v w1 h)
  have hpc : ((2 ^ r : Nat) : Int) = (2 : Int) ^ r := by rw [Int.natCast_pow]; rfl
  rw [hpc] at hts
  have hpm : (2 : Int) ^ r % 4294967296 = (2 : Int) ^ r := Int.emod_eq_of_lt (Int.le_of_lt (Int.pow_pos (by decide))) (by rw [← hpc]; omega)
  clear hpc
  have hSR := Sm_of hs hK
  have hR0 : A * 2 ^ r ≠ 0 := Nat.mul_ne_zero hA0 (Nat.pos_iff_ne_zero.1 (Nat.pow_pos (by decide)))
  have hall : limbs (A * 2 ^ n) = List.replicate q 0 ++ limbs (A * 2 ^ r) := by
   rw [← limbs_zeros hR0 q, show (4294967296 : Nat) = 2 ^ 32 from rfl, ← Nat.pow_mul]
   congr 1
   have e1 : 2 ^ n = 2 ^ (32 * q) * 2 ^ r := by rw [← Nat.pow_add]; congr 1; omega
   rw [e1, Nat.mul_left_comm]
  unfold Sm at hSR
  rw [hall, List.length_append, List.length_replicate] at hSR
  obtain ⟨ao, cap, ev, hcap, hmax, _⟩ := own_any hv
  have hvv := hid hv
  have hl0 : ((limbs A).length == 0) = false := by simpa using fun e => hA0 (limbs_nil.1 e)
  have hl0' : (((limbs A).length : Int) == 0) = false := by simpa using fun e => hA0 (limbs_nil.1 e)
  generalize hga : (limbs A).length = la at *
  unfold maxLen at hmax
  subst ev
  replace hq := hid hq
  replace hr := hid hr
  replace hall := hid hall
  replace hga := hid hga
  replace hR0 := hid hR0
  replace hA0 := hid hA0
  clear hv hs
  go_enter Tryz.func80, Tryz.ntmps80
  go_wp2_with fail
  go_loopw [5, 6] (fun v i wr => ∃ k : Nat, i = .int .i64 k ∧ k ≤ q ∧ wr.ownsRow w.heap.size 34 1 v k (nv (List.replicate k 0)) ∧ Below w.heap.size w wr) (fun _ i _ => q - (intOf i).toNat)
  case atStart => exact ⟨0, rfl, Nat.zero_le _, World.ownsRow_nil _ _ _ _, Below.refl _ _⟩
  case round =>
   obtain ⟨k, rfl, hk, hown, hb⟩ := hrel
   have hsz := hb.size
   by_cases hlt : k < q
   ·go_wp2_with (at_builtin; go_must (refine wpList_append_new rfl _ _ 53 rfl w.heap.size 34 34 (.int .u32 0) 1 4 1 under53 info34 rfl (by decide) _ k _ [.int .u32 0] (0, 0) hown rfl (by simp [Value.oneCell']) (by unfold maxLen; omega) (by omega) hsz rfl rfl ?_); intro v' w1 hown' hb' _)
    go_roundw
    case rel => exact ⟨k + 1, by go_num, by omega, by rw [nv_zeros]; exact hown', hb.trans hb'⟩
    case measure => simp [intOf]; omega
   ·obtain rfl : k = q := by omega
    have ht := hid (hts.out wr (hvv.out.mono hb (Nat.le_refl _)))
    have hown' := hid hown
    have hb' := hid hb
    clear hown hb hlt
    go_wp2_with fail
    refine ht.out.mono ?_
    rintro e w1 ⟨v1, rfl, h1, h2⟩
    rw [Nat.add_zero] at h1
    obtain ⟨ad, c1, rfl, hsrc, hpos⟩ := h1.src hR0.out
    have hown2 := own_mono hown'.out h2 (Nat.le_refl _)
    have hsz2 : w.heap.size ≤ w1.heap.size := Nat.le_trans hsz h2.size
    obtain ⟨lb, hlb⟩ : ∃ lb, lb = (limbs (A * 2 ^ r)).length := ⟨_, rfl⟩
    rw [← hlb] at hpos hSR ⊢
    have hbe2 := hid (hb'.out.trans (h2.mono hsz))
    replace h1 := hid h1
    replace h2 := hid h2
    replace hlb := hid hlb
    go_wp2_with (at_builtin; go_must (refine wpList_append_src rfl _ _ 53 rfl w.heap.size 34 (.int .u32 0) 1 4 under53 info34 rfl (by decide) _ k _ hown2 ad lb c1 (nv (limbs (A * 2 ^ r))) (by rw [nv_len, hlb.out]; omega) hsrc.out (by unfold nv; exact ints_one .u32 _) (by unfold maxLen; omega) (by omega) hsz2 rfl rfl ?_); intro v' w2 hown3 hb3 _)
    go_ret
    refine ⟨_, rfl, ?_, hbe2.out.trans hb3⟩
    unfold Nt
    rw [hall.out, List.length_append, List.length_replicate, nv_app, ← hlb.out]
    exact own_base hown3 (Nat.zero_le _)
def MulR (w : World) (A B : Nat) (v : Value) (k : Nat) (wr : World) : Prop := Nt wr v (A * natL ((limbs B).drop k)) ∧ Below w.heap.size w wr
theorem drop_le (B k : Nat) : natL ((limbs B).drop k) ≤ B := by
 by_cases hk : k ≤ (limbs B).length
 ·have h := natL_split (limbs B) k hk
  rw [natL_limbs] at h
  have h1 : 1 * natL ((limbs B).drop k) ≤ 4294967296 ^ k * natL ((limbs B).drop k) := Nat.mul_le_mul_right _ (Nat.pow_pos (by decide))
  omega
 ·rw [List.drop_of_length_le (by omega)]
  exact Nat.zero_le _
theorem Sm_le {A B : Nat} (hB : Sm B) (h : A ≤ B) : Sm A := by
 unfold Sm at *
 apply Classical.byContradiction
 intro hc
 have := limbs_shorter (m := B) (n := A) (by omega)
 omega
theorem mul130 (A B : Nat) (hA : Sm A) (hB : Sm B) (hs : Sm (A * B)) (v u : Value) (w : World) (hv : Nt w v A) (hu : Nt w u B) : Calls Tryz.prog 130 #[v, u] w (NtR w (A * B)) := by
 obtain ⟨bo, cap2, b2, off2, rfl, hcap2, hmax2, hbo, hc2⟩ := hu.open
 clear hu
 unfold maxLen at hmax2
 obtain ⟨n, hn⟩ : ∃ n, n = (limbs B).length := ⟨_, rfl⟩
 have hBn : n ≤ 2000 := by rw [hn]; exact hB
 rw [← hn] at hcap2 hbo hc2 ⊢
 replace hn := hid hn
 have hvv := hid hv
 clear hv
 have hlB := hid (limbs_Lb B)
 go_enter Tryz.func130, Tryz.ntmps130
 go_wp2_with fail
 go_loopw [5, 6] (fun v i wr => ∃ k : Nat, i = .int .i64 ((k : Int) - 1) ∧ k ≤ n ∧ Hid (MulR w A B v k wr)) (fun _ i _ => (intOf i + 1).toNat)
 case atStart => exact ⟨n, rfl, Nat.le_refl _, hid ⟨by rw [List.drop_of_length_le (by have := hn.out; omega)]; exact Nt.nil w, Below.refl _ _⟩⟩
 case round =>
  obtain ⟨k, rfl, hk, hM⟩ := hrel
  by_cases hk0 : k = 0
  ·subst hk0
   have hfin := hid (show ∀ v, MulR w A B v 0 wr → Nt wr v (A * B) from fun v h => by have h1 := h.1; rw [List.drop_zero, natL_limbs] at h1; exact h1)
   go_wp2_with fail
   go_ret
   exact ⟨_, rfl, hfin.out _ hM.out, hM.out.2⟩
  ·obtain ⟨j, rfl⟩ : ∃ j, k = j + 1 := ⟨k - 1, by omega⟩
   rcases hbo with h | rfl
   ·omega
   obtain ⟨x, hx1, hx2, hx3⟩ := limb_at hlB.out (show j < (limbs B).length by rw [← hn.out]; omega)
   have hd := natL_drop (l := limbs B) (i := j) (by rw [← hn.out]; omega) hx2
   obtain ⟨T, hT⟩ : ∃ T, T = natL ((limbs B).drop (j + 1)) := ⟨_, rfl⟩
   obtain ⟨S, hS⟩ : ∃ S, S = natL ((limbs B).drop j) := ⟨_, rfl⟩
   have hM1 := hM.out.1
   have hMB := hM.out.2
   rw [← hT] at hd hM1
   rw [← hS] at hd
   have hSB : S ≤ B := by rw [hS]; exact drop_le B j
   have hAS : A * S ≤ A * B := Nat.mul_le_mul_left _ hSB
   have hASd : A * S = A * T * 4294967296 + A * x := by rw [hd, Nat.mul_add, Nat.add_comm, Nat.mul_comm 4294967296 T, ← Nat.mul_assoc]
   have hsm1 : Sm (A * T * 4294967296) := Sm_le hs (by omega)
   have hsm2 : Sm (A * x) := Sm_le hs (by omega)
   have hx1' := hid hx1
   have cx := hc2.out j (by omega)
   have cx' := (hMB.cell (World.block_lt_of_cell? w _ cx)).trans cx
   rw [hx1] at cx'
   have hji : ((j + 1 : Nat) : Int) - 1 = (j : Int) := by omega
   rw [hji]
   have hsz := hMB.size
   have hts := hid (fun (w1 : World) (v : Value) (h : Nt w1 v A) => times84 A x 0 hx3 (by decide) hA v w1 h)
   have hpl := hid (fun (w1 : World) (v u : Value) (h1 : Nt w1 v (A * T * 4294967296)) (h2 : Nt w1 u (A * x)) => plus50 (A * T * 4294967296) (A * x) hsm1 hsm2 v u w1 h1 h2)
   rw [← hASd] at hpl
   have hnext := hid (show ∀ v w2, Nt w2 v (A * S) → Below w.heap.size w w2 → MulR w A B v j w2 from fun v w2 h1 h2 => ⟨by rw [← hS]; exact h1, h2⟩)
   obtain ⟨ao, c1, ev, hc1, hc1m, _⟩ := own_any hM1
   rw [ev] at hM1 ⊢
   unfold maxLen at hc1m
   obtain ⟨lt, hlt⟩ : ∃ lt, lt = (limbs (A * T)).length := ⟨_, rfl⟩
   rw [← hlt] at hM1 hc1 ev ⊢
   have hAx : ¬ j + 1 = 0 := by omega
   clear hk0 hx1 hx2 hd hT hS hji hM ev
   by_cases hl0 : lt = 0
   ·have hout := hid (show Nt wr (.slice ao lt c1) (A * T * 4294967296) by
     have : A * T = 0 := limbs_nil.1 (List.eq_nil_of_length_eq_zero (by omega))
     rw [this] at hM1 ⊢
     exact hM1)
    have hB2 := hid hMB
    subst hl0
    replace hlt := hid hlt
    clear hM1 hMB cx hASd hAS
    go_wp2_with fail
    refine (hts.out _ _ (hvv.out.mono hB2.out (Nat.le_refl _))).mono ?_
    rintro e w3 ⟨v3, rfl, h1, h2⟩
    rw [Nat.add_zero] at h1
    have ho3 := hout.out.mono h2 (Nat.le_refl _)
    have hB3 := hid (hB2.out.trans (h2.mono hB2.out.size))
    have hp := hid (hpl.out w3 _ _ ho3 h1)
    replace h1 := hid h1
    replace h2 := hid h2
    replace ho3 := hid ho3
    go_wp2_with fail
    refine hp.out.mono ?_
    rintro e w4 ⟨v4, rfl, h3, h4⟩
    have hB4 := hB3.out.trans (h4.mono hB3.out.size)
    have hn4 := hid (hnext.out _ _ h3 hB4)
    replace h3 := hid h3
    replace h4 := hid h4
    replace hB4 := hid hB4
    go_wp2_with fail
    go_roundw
    case rel => exact ⟨j, rfl, by omega, hn4⟩
    case measure => simp [intOf]
   ·have hAT : A * T ≠ 0 := fun e => hl0 (by rw [hlt, e, limbs_zero]; rfl)
    have hlx : lt ≤ 2000 := by
     have h1 := Sm_le hsm1 (show A * T ≤ A * T * 4294967296 by omega)
     rw [hlt]; exact h1
    have hownN : (wr.alloc (.cells #[.int .u32 0] 34)).ownsRow wr.heap.size 34 1 (.slice (some ⟨wr.heap.size, 0, none⟩) 1 1) 1 [.int .u32 0] := own_new (xs := [.int .u32 0]) (by unfold maxLen; simp)
    obtain ⟨ad, c2, hev, hsrc, hpos⟩ := (hM1.alloc (.cells #[.int .u32 0] 34)).src hAT
    simp only [Value.slice.injEq] at hev
    obtain ⟨rfl, -, rfl⟩ := hev
    have hB1 := hid ((Below.refl wr.heap.size wr).alloc (Nat.le_refl _) (.cells #[.int .u32 0] 34))
    have hMB' := hid hMB
    have hszN : wr.heap.size ≤ (wr.alloc (.cells #[.int .u32 0] 34)).heap.size := by simp
    have hlp : 0 < lt := by omega
    replace hlt := hid hlt
    have hcx := hid cx
    clear hM1 hl0 cx hMB hASd hAS
    go_wp2_with (at_builtin; go_must (refine wpList_append_src rfl _ _ 53 rfl wr.heap.size 34 (.int .u32 0) 1 4 under53 info34 rfl (by decide) _ 1 _ hownN ad lt c1 (nv (limbs (A * T))) (by rw [nv_len, hlt.out]; omega) hsrc.out (by unfold nv; exact ints_one .u32 _) (by unfold maxLen; omega) (by omega) hszN rfl rfl ?_); intro v' w2 hown3 hb3 _; have hB2 := hid (hMB'.out.trans ((hB1.out.trans hb3).mono hsz)); have hout := hid (show Nt w2 v' (A * T * 4294967296) by unfold Nt; rw [Nat.mul_comm, limbs_shift hAT, List.length_cons, Nat.add_comm]; rw [← hlt.out]; exact own_base hown3 (Nat.zero_le _)); have cx2 := (hB2.out.cell (World.block_lt_of_cell? w _ hcx.out)).trans hcx.out; rw [hx1'.out] at cx2; clear hown3 hb3)
    refine (hts.out _ _ (hvv.out.mono hB2.out (Nat.le_refl _))).mono ?_
    rintro e w3 ⟨v3, rfl, h1, h2⟩
    rw [Nat.add_zero] at h1
    have ho3 := hout.out.mono h2 (Nat.le_refl _)
    have hB3 := hid (hB2.out.trans (h2.mono hB2.out.size))
    have hp := hid (hpl.out w3 _ _ ho3 h1)
    replace h1 := hid h1
    replace h2 := hid h2
    replace ho3 := hid ho3
    go_wp2_with fail
    refine hp.out.mono ?_
    rintro e w4 ⟨v4, rfl, h3, h4⟩
    have hB4 := hB3.out.trans (h4.mono hB3.out.size)
    have hn4 := hid (hnext.out _ _ h3 hB4)
    replace h3 := hid h3
    replace h4 := hid h4
    replace hB4 := hid hB4
    go_wp2_with fail
    go_roundw
    case rel => exact ⟨j, rfl, by omega, hn4⟩
    case measure => simp [intOf]
end
section
set_option maxRecDepth 100000
open Go
theorem pow2_mul {a b k m : Nat} (h1 : a < 2 ^ k) (h2 : b < 2 ^ m) : a * b < 2 ^ (k + m) := by
 rw [Nat.pow_add]
 exact Nat.mul_lt_mul_of_lt_of_lt h1 h2
theorem pow2_self {a k : Nat} (n : Nat) (h1 : a < 2 ^ k) : a * 2 ^ n < 2 ^ (k + n) := by
 rw [Nat.pow_add]
 exact Nat.mul_lt_mul_of_pos_right h1 (Nat.pow_pos (by decide))
theorem nt_bd {a k K : Nat} (h : a < 2 ^ k) (hk : k ≤ K) : a < 2 ^ K := Nat.lt_of_lt_of_le h (Nat.pow_le_pow_right (by decide) hk)
theorem against103 (num den mant : Nat) (power : Int) (hnum : num < 2 ^ 20000) (hden : den < 2 ^ 20000) (hm : mant < 18446744073709551616) (hp : -3000 ≤ power ∧ power ≤ 3000) (vn vd : Value) (w : World) (hn : Nt w vn num) (hd : Nt w vd den) :
  Calls Tryz.prog 103 #[.agg #[vn, vd], .int .u64 mant, .int .i64 power] w fun e w' => e = .returned (.int .i64 (ag mant power num den)) ∧ Below w.heap.size w w' := by
 obtain ⟨R, hR⟩ : ∃ R, R = ag mant power num den := ⟨_, rfl⟩
 rw [← hR]
 unfold ag at hR
 have hm64 : mant < 2 ^ 64 := hm
 have hna := hid (fun (w1 : World) => nat51 mant hm w1)
 obtain ⟨ao1, c1, e1, hc1, hm1, _⟩ := own_any hn
 obtain ⟨ao2, c2, e2, hc2, hm2, _⟩ := own_any hd
 have hp1 := hp.1
 have hp2 := hp.2
 have hB0 : Below w.heap.size w (w.alloc (.cells #[vn, vd] 108)) := (Below.refl _ _).alloc (Nat.le_refl _) _
 have hn0 := hid (hn.alloc (.cells #[vn, vd] 108))
 have hd0 := hid (hd.alloc (.cells #[vn, vd] 108))
 have k0 : (w.alloc (.cells #[vn, vd] 108)).cell? ⟨w.heap.size, 0, none⟩ = some vn := by simp
 have k1 : (w.alloc (.cells #[vn, vd] 108)).cell? ⟨w.heap.size, 1, none⟩ = some vd := by simp
 have hs0 : (w.alloc (.cells #[vn, vd] 108)).heap.size = w.heap.size + 1 := by simp
 replace hn := hid hn
 replace hd := hid hd
 rw [e1, e2] at k0 k1 hB0 hn0 hd0 hs0 ⊢
 generalize hla : (limbs num).length = la at *
 generalize hlb : (limbs den).length = lb at *
 replace hla := hid hla
 replace hlb := hid hlb
 clear e1 e2
 obtain ⟨w0, hw0⟩ : ∃ w0, w0 = w.alloc (.cells #[.slice ao1 la c1, .slice ao2 lb c2] 108) := ⟨_, rfl⟩
 rw [← hw0] at k0 k1 hB0 hn0 hd0 hs0
 unfold maxLen at hm1 hm2
 have hw0' := hid hw0
 go_enter Tryz.func103, Tryz.ntmps103
 go_wp2_with fail
 rw [← hw0]
 clear hw0
 refine (hna.out w0).mono ?_
 rintro e w1 ⟨va, rfl, h1, h2⟩
 have hk0 : w1.cell? ⟨w.heap.size, 0, none⟩ = some (.slice ao1 la c1) := (h2.cell (show w.heap.size < w0.heap.size by omega)).trans k0
 have hk1 : w1.cell? ⟨w.heap.size, 1, none⟩ = some (.slice ao2 lb c2) := (h2.cell (show w.heap.size < w0.heap.size by omega)).trans k1
 have hn1 := hid (hn0.out.mono h2 (Nat.le_refl _))
 have hd1 := hid (hd0.out.mono h2 (Nat.le_refl _))
 have hB1 := hid (hB0.trans (h2.mono (by omega)))
 have hs1 : w.heap.size < w1.heap.size := by have := h2.size; omega
 replace h1 := hid h1
 replace h2 := hid h2
 clear k0 k1 hB0 hs0
 by_cases h0 : 0 ≤ power
 ·have hbig : mant * 2 ^ power.toNat < 2 ^ (64 + power.toNat) := pow2_self _ hm64
  have hbig2 : mant * 2 ^ power.toNat * den < 2 ^ (64 + power.toNat + 20000) := pow2_mul hbig hden
  obtain ⟨p, hpp⟩ : ∃ p : Nat, power = (p : Int) := ⟨power.toNat, by omega⟩
  subst hpp
  rw [show ((p : Int)).toNat = p by omega] at hbig hbig2 hR
  rw [show (-(p : Int)).toNat = 0 by omega, Nat.pow_zero, Nat.mul_one] at hR
  have htw := hid (fun w2 v h => twos80 mant p (64 + p) hbig (by omega) v w2 h)
  have hmu := hid (fun w2 v u h1 h2 => mul130 (mant * 2 ^ p) den (Sm_of hbig (by omega)) (Sm_of hden (by omega)) (Sm_of hbig2 (by omega)) v u w2 h1 h2)
  have hcm := hid (fun w2 v u h1 h2 => cmp83 (mant * 2 ^ p * den) num (Sm_of hbig2 (by omega)) (Sm_of hnum (by omega)) v u w2 h1 h2)
  rw [← hR] at hcm
  clear hbig hbig2 hnum hden hm64
  replace hR := hid hR
  go_wp2_with fail
  refine (htw.out w1 va h1.out).mono ?_
  rintro e w2 ⟨vb, rfl, h3, h4⟩
  have hk0' : w2.cell? ⟨w.heap.size, 0, none⟩ = some (.slice ao1 la c1) := (h4.cell hs1).trans hk0
  have hk1' : w2.cell? ⟨w.heap.size, 1, none⟩ = some (.slice ao2 lb c2) := (h4.cell hs1).trans hk1
  have hn2 := hid (hn1.out.mono h4 (Nat.le_refl _))
  have hd2 := hid (hd1.out.mono h4 (Nat.le_refl _))
  have hB2 := hid (hB1.out.trans (h4.mono (Nat.le_of_lt hs1)))
  have hs2 : w.heap.size < w2.heap.size := by have := h4.size; omega
  have hmc := hid (hmu.out w2 vb _ h3 hd2.out)
  replace h3 := hid h3
  replace h4 := hid h4
  go_wp2_with fail
  refine hmc.out.mono ?_
  rintro e w3 ⟨vc, rfl, h5, h6⟩
  have hn3 := hid (hn2.out.mono h6 (Nat.le_refl _))
  have hB3 := hB2.out.trans (h6.mono (Nat.le_of_lt hs2))
  have hs3 : w.heap.size < w3.heap.size := by have := h6.size; omega
  have hcc := hid (hcm.out w3 vc _ h5 hn3.out)
  replace h5 := hid h5
  replace h6 := hid h6
  replace hB3 := hid hB3
  go_wp2_with fail
  refine hcc.out.mono ?_
  rintro e w4 ⟨rfl, h7⟩
  go_wp2_with fail
  go_ret
  exact ⟨rfl, hB3.out.trans (h7.mono (Nat.le_of_lt hs3))⟩
 ·obtain ⟨p, hpp⟩ : ∃ p : Nat, power = -(p : Int) := ⟨(-power).toNat, by omega⟩
  subst hpp
  have hbig : num * 2 ^ p < 2 ^ (20000 + p) := pow2_self _ hnum
  have hbig2 : mant * den < 2 ^ (64 + 20000) := pow2_mul hm64 hden
  rw [show (-(p : Int)).toNat = 0 by omega, Nat.pow_zero, Nat.mul_one, show (- -(p : Int)).toNat = p by omega] at hR
  have hng : -(-(p : Int)) = (p : Int) := by omega
  have htw := hid (fun w2 v h => twos80 num p (20000 + p) hbig (by omega) v w2 h)
  have hmu := hid (fun w2 v u h1 h2 => mul130 mant den (Sm_of hm64 (by omega)) (Sm_of hden (by omega)) (Sm_of hbig2 (by omega)) v u w2 h1 h2)
  have hcm := hid (fun w2 v u h1 h2 => cmp83 (mant * den) (num * 2 ^ p) (Sm_of hbig2 (by omega)) (Sm_of hbig (by omega)) v u w2 h1 h2)
  rw [← hR] at hcm
  clear hbig hbig2 hnum hden hm64
  have h0' : -(p : Int) < 0 := by omega
  replace hR := hid hR
  go_wp2_with fail
  refine (htw.out w1 _ hn1.out).mono ?_
  rintro e w2 ⟨vb, rfl, h3, h4⟩
  have hk1' : w2.cell? ⟨w.heap.size, 1, none⟩ = some (.slice ao2 lb c2) := (h4.cell hs1).trans hk1
  have hd2 := hid (hd1.out.mono h4 (Nat.le_refl _))
  have ha2 := hid (h1.out.mono h4 (Nat.le_refl _))
  have hB2 := hid (hB1.out.trans (h4.mono (Nat.le_of_lt hs1)))
  have hs2 : w.heap.size < w2.heap.size := by have := h4.size; omega
  have hmc := hid (hmu.out w2 _ _ ha2.out hd2.out)
  have h3' := hid h3
  clear h3
  replace h4 := hid h4
  go_wp2_with fail
  refine hmc.out.mono ?_
  rintro e w3 ⟨vc, rfl, h5, h6⟩
  have hn3 := hid (h3'.out.mono h6 (Nat.le_refl _))
  have hB3 := hB2.out.trans (h6.mono (Nat.le_of_lt hs2))
  have hs3 : w.heap.size < w3.heap.size := by have := h6.size; omega
  have hcc := hid (hcm.out w3 vc _ h5 hn3.out)
  replace h5 := hid h5
  replace h6 := hid h6
  replace hB3 := hid hB3
  go_wp2_with fail
  refine hcc.out.mono ?_
  rintro e w4 ⟨rfl, h7⟩
  go_wp2_with fail
  go_ret
  exact ⟨rfl, hB3.out.trans (h7.mono (Nat.le_of_lt hs3))⟩
def fo64 : Value := .agg #[.int .i64 52, .int .i64 11, .int .i64 (-1074)]
theorem endless33_64 (w : World) : Calls Tryz.prog 33 #[.agg #[.int .i64 52, .int .i64 11, .int .i64 (-1074)]] w fun e w' => e = .returned (.int .u64 9218868437227405312) ∧ Below w.heap.size w w' := by
 have hB : Below w.heap.size w (w.alloc (.cells #[.int .i64 52, .int .i64 11, .int .i64 (-1074)] 27)) := (Below.refl _ _).alloc (Nat.le_refl _) _
 go_enter Tryz.func33, Tryz.ntmps33
 go_wp2
 go_ret
 exact ⟨rfl, hB⟩
theorem sign35_64 (w : World) : Calls Tryz.prog 35 #[.agg #[.int .i64 52, .int .i64 11, .int .i64 (-1074)]] w fun e w' => e = .returned (.int .u64 9223372036854775808) ∧ Below w.heap.size w w' := by
 have hB : Below w.heap.size w (w.alloc (.cells #[.int .i64 52, .int .i64 11, .int .i64 (-1074)] 27)) := (Below.refl _ _).alloc (Nat.le_refl _) _
 go_enter Tryz.func35, Tryz.ntmps35
 go_wp2
 go_ret
 exact ⟨rfl, hB⟩
theorem parts48_64 (b : Nat) (hb : b ≤ 9218868437227405312) (w : World) : Calls Tryz.prog 48 #[.agg #[.int .i64 52, .int .i64 11, .int .i64 (-1074)], .int .u64 b] w fun e w' => e = .returned (.tuple #[.int .u64 (pM 52 b), .int .i64 ((pE 52 b : Int) - 1074)]) ∧ Below w.heap.size w w' := by
 obtain ⟨q, hq⟩ : ∃ q, q = b / 2 ^ 52 := ⟨_, rfl⟩
 obtain ⟨r, hr⟩ : ∃ r, r = b % 2 ^ 52 := ⟨_, rfl⟩
 have hB : Below w.heap.size w (w.alloc (.cells #[.int .i64 52, .int .i64 11, .int .i64 (-1074)] 27)) := (Below.refl _ _).alloc (Nat.le_refl _) _
 have hq2 : q ≤ 2047 := by omega
 have hqi : (b : Int) / 4503599627370496 = (q : Int) := by omega
 have han := and_low 52 b (by omega) (by decide)
 rw [show ((2 ^ 52 - 1 : Nat) : Int) = 4503599627370495 from rfl, ← hr] at han
 have hr2 : (r : Int) < 4503599627370496 := by omega
 have hbi : (b : Int) ≤ 9218868437227405312 := by omega
 obtain ⟨M, hM⟩ : ∃ M, M = pM 52 b := ⟨_, rfl⟩
 obtain ⟨E, hE⟩ : ∃ E, E = pE 52 b := ⟨_, rfl⟩
 rw [← hM, ← hE]
 unfold pM at hM
 unfold pE at hE
 rw [← hq] at hM hE
 by_cases h0 : q = 0
 ·rw [if_pos h0] at hM
  have hfin : Hid (r = M ∧ E = 0) := hid ⟨by omega, by omega⟩
  clear hq hr hM hE
  subst h0
  clear hb
  go_enter Tryz.func48, Tryz.ntmps48
  go_wp2
  go_region
  go_wp2
  go_ret2
  obtain ⟨g1, g2⟩ := hfin.out
  exact ⟨by rw [g1, g2]; rfl, hB.drew⟩
 ·rw [if_neg h0, ← hr] at hM
  have h0' : ((q : Int) == 0) = false := by simpa using h0
  have hfin : Hid ((r : Int) + 4503599627370496 = (M : Int) ∧ -1074 + (q : Int) - 1 = (E : Int) - 1074) := hid ⟨by omega, by omega⟩
  clear hq hr hM hE hb
  go_enter Tryz.func48, Tryz.ntmps48
  go_wp2
  go_region
  go_wp2
  go_ret2
  obtain ⟨g1, g2⟩ := hfin.out
  exact ⟨by rw [← g1, ← g2]; rfl, hB.drew⟩
def fo32 : Value := .agg #[.int .i64 23, .int .i64 8, .int .i64 (-149)]
theorem endless33_32 (w : World) : Calls Tryz.prog 33 #[.agg #[.int .i64 23, .int .i64 8, .int .i64 (-149)]] w fun e w' => e = .returned (.int .u64 2139095040) ∧ Below w.heap.size w w' := by
 have hB : Below w.heap.size w (w.alloc (.cells #[.int .i64 23, .int .i64 8, .int .i64 (-149)] 27)) := (Below.refl _ _).alloc (Nat.le_refl _) _
 go_enter Tryz.func33, Tryz.ntmps33
 go_wp2
 go_ret
 exact ⟨rfl, hB⟩
theorem sign35_32 (w : World) : Calls Tryz.prog 35 #[.agg #[.int .i64 23, .int .i64 8, .int .i64 (-149)]] w fun e w' => e = .returned (.int .u64 2147483648) ∧ Below w.heap.size w w' := by
 have hB : Below w.heap.size w (w.alloc (.cells #[.int .i64 23, .int .i64 8, .int .i64 (-149)] 27)) := (Below.refl _ _).alloc (Nat.le_refl _) _
 go_enter Tryz.func35, Tryz.ntmps35
 go_wp2
 go_ret
 exact ⟨rfl, hB⟩
theorem parts48_32 (b : Nat) (hb : b ≤ 2139095040) (w : World) : Calls Tryz.prog 48 #[.agg #[.int .i64 23, .int .i64 8, .int .i64 (-149)], .int .u64 b] w fun e w' => e = .returned (.tuple #[.int .u64 (pM 23 b), .int .i64 ((pE 23 b : Int) - 149)]) ∧ Below w.heap.size w w' := by
 obtain ⟨q, hq⟩ : ∃ q, q = b / 2 ^ 23 := ⟨_, rfl⟩
 obtain ⟨r, hr⟩ : ∃ r, r = b % 2 ^ 23 := ⟨_, rfl⟩
 have hB : Below w.heap.size w (w.alloc (.cells #[.int .i64 23, .int .i64 8, .int .i64 (-149)] 27)) := (Below.refl _ _).alloc (Nat.le_refl _) _
 have hq2 : q ≤ 255 := by omega
 have hqi : (b : Int) / 8388608 = (q : Int) := by omega
 have han := and_low 23 b (by omega) (by decide)
 rw [show ((2 ^ 23 - 1 : Nat) : Int) = 8388607 from rfl, ← hr] at han
 have hr2 : (r : Int) < 8388608 := by omega
 have hbi : (b : Int) ≤ 2139095040 := by omega
 obtain ⟨M, hM⟩ : ∃ M, M = pM 23 b := ⟨_, rfl⟩
 obtain ⟨E, hE⟩ : ∃ E, E = pE 23 b := ⟨_, rfl⟩
 rw [← hM, ← hE]
 unfold pM at hM
 unfold pE at hE
 rw [← hq] at hM hE
 by_cases h0 : q = 0
 ·rw [if_pos h0] at hM
  have hfin : Hid (r = M ∧ E = 0) := hid ⟨by omega, by omega⟩
  clear hq hr hM hE
  subst h0
  clear hb
  go_enter Tryz.func48, Tryz.ntmps48
  go_wp2
  go_region
  go_wp2
  go_ret2
  obtain ⟨g1, g2⟩ := hfin.out
  exact ⟨by rw [g1, g2]; rfl, hB.drew⟩
 ·rw [if_neg h0, ← hr] at hM
  have h0' : ((q : Int) == 0) = false := by simpa using h0
  have hfin : Hid ((r : Int) + 8388608 = (M : Int) ∧ -149 + (q : Int) - 1 = (E : Int) - 149) := hid ⟨by omega, by omega⟩
  clear hq hr hM hE hb
  go_enter Tryz.func48, Tryz.ntmps48
  go_wp2
  go_region
  go_wp2
  go_ret2
  obtain ⟨g1, g2⟩ := hfin.out
  exact ⟨by rw [← g1, ← g2]; rfl, hB.drew⟩
end
end Go.Proofs.YtlgneiaenanfaaaGreatDoor
