/- Walks and plain laws, merged: FrH. No condition. -/
import Derived.Test.YtlgneiaenanfaaaGreatDoorKq23
import Derived.Test.YtlgneiaenanfaaaGreatDoorKq09
namespace Go.Proofs.YtlgneiaenanfaaaGreatDoor
open Go.RowKit
set_option linter.unusedVariables false
set_option linter.unusedSimpArgs false
set_option maxRecDepth 100000
set_option maxHeartbeats 64000000
set_option exponentiation.threshold 70000
section
set_option maxRecDepth 100000
open Go
theorem BitN.same {N k j : Nat} (h1 : BitN N k) (h2 : BitN N j) : k = j := by
 by_cases h0 : N = 0
 ·rw [h1.1 h0, h2.1 h0]
 ·obtain ⟨a1, a2, a3⟩ := h1.2 h0
  obtain ⟨b1, b2, b3⟩ := h2.2 h0
  have h3 := (Nat.pow_lt_pow_iff_right (by decide : 1 < 2)).1 (Nat.lt_of_le_of_lt a2 b3)
  have h4 := (Nat.pow_lt_pow_iff_right (by decide : 1 < 2)).1 (Nat.lt_of_le_of_lt b2 a3)
  omega
theorem bitN_ex : ∀ N : Nat, ∃ k, BitN N k := by
 intro N
 induction N using Nat.strongRecOn with
 | _ N ih =>
  by_cases h0 : N = 0
  ·exact ⟨0, fun _ => rfl, fun h => absurd h0 h⟩
  ·obtain ⟨k, hk⟩ := ih (N / 2) (by omega)
   refine ⟨k + 1, fun h => absurd h h0, fun _ => ⟨by omega, ?_, ?_⟩⟩
   ·rw [show k + 1 - 1 = k by omega]
    by_cases h1 : N / 2 = 0
    ·rw [hk.1 h1]; simp; omega
    ·obtain ⟨a1, a2, a3⟩ := hk.2 h1
     obtain ⟨j, rfl⟩ : ∃ j, k = j + 1 := ⟨k - 1, by omega⟩
     rw [show j + 1 - 1 = j by omega] at a2
     rw [Nat.pow_succ]
     omega
   ·rw [Nat.pow_succ]
    by_cases h1 : N / 2 = 0
    ·rw [hk.1 h1]; simp; omega
    ·obtain ⟨a1, a2, a3⟩ := hk.2 h1
     omega
theorem bits102k (A k : Nat) (hk : BitN A k) (hA : Sm A) (v : Value) (w : World) (hv : Nt w v A) : Calls Tryz.prog 102 #[v] w fun e w' => e = .returned (.int .i64 (k : Int)) ∧ w = w' :=
 (bits102 A hA v w hv).mono fun e w' ⟨j, he, hj, _, hw⟩ => by
  rw [hj.same hk] at he
  exact ⟨he, hw⟩
theorem digits_len : ∀ n : Nat, n ≠ 0 → 1 ≤ (Lib.decDigits n).length ∧ 10 ^ ((Lib.decDigits n).length - 1) ≤ n ∧ n < 10 ^ (Lib.decDigits n).length := by
 intro n
 induction n using Nat.strongRecOn with
 | _ n ih =>
  intro h
  by_cases h10 : n < 10
  ·rw [Lib.decDigits, dif_pos h10]
   simp
   omega
  ·rw [decDigits_ten n (by omega), List.length_append, List.length_singleton]
   obtain ⟨h1, h2, h3⟩ := ih (n / 10) (by omega) (by omega)
   obtain ⟨k, hk⟩ : ∃ k, (Lib.decDigits (n / 10)).length = k + 1 := ⟨_, (Nat.succ_pred_eq_of_pos h1).symm⟩
   rw [hk] at h2 h3 ⊢
   rw [show k + 1 - 1 = k by omega] at h2
   rw [show k + 1 + 1 - 1 = k + 1 by omega, Nat.pow_succ, Nat.pow_succ 10 (k + 1)]
   generalize 10 ^ k = T at *
   rw [Nat.pow_succ] at h3
   omega
def ValR (M B : Nat) (p : Int) (w : World) (e : Ending) (w' : World) : Prop := ∃ (ao1 : Option Addr) (n1 c1 : Nat) (ao2 : Option Addr) (n2 c2 : Nat) (tag : Int), e = .returned (.tuple #[.agg #[.slice ao1 n1 c1, .slice ao2 n2 c2], .int .i64 tag]) ∧ Below w.heap.size w w' ∧
 ((tag = 0 ∧ (M = 0 ∨ 2 * (M * B ^ p.toNat * 2 ^ 1074) < B ^ (-p).toNat)) ∨ (tag = 2 ∧ 2 ^ 1024 * B ^ (-p).toNat ≤ M * B ^ p.toNat) ∨ (tag = 1 ∧ Nt w' (.slice ao1 n1 c1) (M * B ^ p.toNat) ∧ Nt w' (.slice ao2 n2 c2) (B ^ (-p).toNat) ∧ M * B ^ p.toNat < 2 ^ 20000 ∧ B ^ (-p).toNat < 2 ^ 20000))
theorem two_huge {M k : Nat} {p : Int} (h1 : 2 ^ (k - 1) ≤ M) (h : 1100 < p + k) : 2 ^ 1024 * 2 ^ (-p).toNat ≤ M * 2 ^ p.toNat := by
 calc 2 ^ 1024 * 2 ^ (-p).toNat = 2 ^ (1024 + (-p).toNat) := (Nat.pow_add ..).symm
  _ ≤ 2 ^ (k - 1 + p.toNat) := Nat.pow_le_pow_right (by decide) (by omega)
  _ = 2 ^ (k - 1) * 2 ^ p.toNat := Nat.pow_add ..
  _ ≤ M * 2 ^ p.toNat := Nat.mul_le_mul_right _ h1
theorem two_tiny {M k : Nat} {p : Int} (h1 : M < 2 ^ k) (h : p + k < -1100) : 2 * (M * 2 ^ p.toNat * 2 ^ 1074) < 2 ^ (-p).toNat := by
 have h2 : M * 2 ^ p.toNat * 2 ^ 1074 < 2 ^ k * 2 ^ p.toNat * 2 ^ 1074 := Nat.mul_lt_mul_of_pos_right (Nat.mul_lt_mul_of_pos_right h1 (Nat.pow_pos (by decide))) (Nat.pow_pos (by decide))
 have h3 : 2 * (2 ^ k * 2 ^ p.toNat * 2 ^ 1074) = 2 ^ (1 + (k + p.toNat + 1074)) := by rw [Nat.pow_add, Nat.pow_add, Nat.pow_add, Nat.pow_one]
 have h4 : 2 ^ (1 + (k + p.toNat + 1074)) ≤ 2 ^ (-p).toNat := Nat.pow_le_pow_right (by decide) (by omega)
 omega
theorem p1024 : (2 : Nat) ^ 1024 ≤ 10 ^ 309 := Nat.le_of_ble_eq_true (by kernel_rfl)
theorem p1075 : 2 * (2 : Nat) ^ 1074 ≤ 10 ^ 324 := Nat.le_of_ble_eq_true (by kernel_rfl)
theorem ten_huge {M k : Nat} {p : Int} (h1 : 10 ^ (k - 1) ≤ M) (h : 400 < p + k) : 2 ^ 1024 * 10 ^ (-p).toNat ≤ M * 10 ^ p.toNat := by
 calc 2 ^ 1024 * 10 ^ (-p).toNat ≤ 10 ^ 309 * 10 ^ (-p).toNat := Nat.mul_le_mul_right _ p1024
  _ = 10 ^ (309 + (-p).toNat) := (Nat.pow_add ..).symm
  _ ≤ 10 ^ (k - 1 + p.toNat) := Nat.pow_le_pow_right (by decide) (by omega)
  _ = 10 ^ (k - 1) * 10 ^ p.toNat := Nat.pow_add ..
  _ ≤ M * 10 ^ p.toNat := Nat.mul_le_mul_right _ h1
theorem ten_tiny {M k : Nat} {p : Int} (h1 : M < 10 ^ k) (h : p + k < -400) : 2 * (M * 10 ^ p.toNat * 2 ^ 1074) < 10 ^ (-p).toNat := by
 have h2 : M * 10 ^ p.toNat < 10 ^ k * 10 ^ p.toNat := Nat.mul_lt_mul_of_pos_right h1 (Nat.pow_pos (by decide))
 have h3 : 2 * (M * 10 ^ p.toNat * 2 ^ 1074) = M * 10 ^ p.toNat * (2 * 2 ^ 1074) := by simp only [Nat.mul_assoc, Nat.mul_left_comm, Nat.mul_comm]
 have h4 : M * 10 ^ p.toNat * (2 * 2 ^ 1074) ≤ M * 10 ^ p.toNat * 10 ^ 324 := Nat.mul_le_mul_left _ p1075
 have h5 : M * 10 ^ p.toNat * 10 ^ 324 < 10 ^ k * 10 ^ p.toNat * 10 ^ 324 := Nat.mul_lt_mul_of_pos_right h2 (Nat.pow_pos (by decide))
 have h6 : 10 ^ k * 10 ^ p.toNat * 10 ^ 324 = 10 ^ (k + p.toNat + 324) := by rw [Nat.pow_add, Nat.pow_add]
 have h7 : 10 ^ (k + p.toNat + 324) ≤ 10 ^ (-p).toNat := Nat.pow_le_pow_right (by decide) (by omega)
 omega
theorem ten_two (k : Nat) : 10 ^ k ≤ 2 ^ (4 * k) := by
 rw [Nat.pow_mul]
 exact Nat.pow_le_pow_left (by decide) k
theorem Nt.set {w : World} {v : Value} {N B : Nat} {cs : Array Value} {fr : Nat × Nat} (h : Nt w v N) (hb : w.heap[B]? = some (.cells cs 108 fr)) (j : Nat) (x : Value) : Nt (w.setCell ⟨B, j, none⟩ x) v N := by
 obtain ⟨h1, h2⟩ := h
 refine ⟨h1, ?_⟩
 rcases h2 with h2 | ⟨g, cap, cur, hv, hg, hh, r⟩
 ·exact .inl h2
 ·have hne : g ≠ B := by
   rintro rfl
   rw [hb] at hh
   simp at hh
  exact .inr ⟨g, cap, cur, hv, hg, by rw [Below.heap_setCell w ⟨B, j, none⟩ x g hne]; exact hh, r⟩
theorem Nt.sh {w : World} {v : Value} {N : Nat} (h : Nt w v N) : ∃ ao n c, v = .slice ao n c := by
 obtain ⟨ao, c, e, _⟩ := own_any h
 exact ⟨ao, _, c, e⟩
structure VB (w wx : World) : Prop where
 bl : wx.heap[w.heap.size]? = some (.cells #[.slice none 0 0, .slice none 0 0] 108 (0, 0))
 be : Below w.heap.size w wx
theorem VB.c0 {w wx : World} (h : VB w wx) : wx.cell? ⟨w.heap.size, 0, none⟩ = some (.slice none 0 0) := (cell_of_row wx _ 0 _ 108 (0, 0) h.bl).trans rfl
theorem VB.c1 {w wx : World} (h : VB w wx) : wx.cell? ⟨w.heap.size, 1, none⟩ = some (.slice none 0 0) := (cell_of_row wx _ 1 _ 108 (0, 0) h.bl).trans rfl
theorem VB.f0 {w wx : World} (h : VB w wx) : wx.frozen? ⟨w.heap.size, 0, none⟩ = false := frozen_of_row wx _ 0 _ 108 h.bl
theorem VB.f1 {w wx : World} (h : VB w wx) : wx.frozen? ⟨w.heap.size, 1, none⟩ = false := frozen_of_row wx _ 1 _ 108 h.bl
theorem VB.start (w : World) : VB w (w.alloc (.cells #[.slice none 0 0, .slice none 0 0] 108)) := ⟨heap_alloc_new w _, (Below.refl _ _).alloc (Nat.le_refl _) _⟩
theorem VB.next {w wx w' : World} (h : VB w wx) (hb : Below wx.heap.size wx w') (hz : w.heap.size < wx.heap.size) : VB w w' := ⟨by rw [hb.block _ hz]; exact h.bl, h.be.trans (hb.mono (by omega))⟩
theorem VB.done {w wx : World} (h : VB w wx) (a b : Value) : ((wx.setCell ⟨w.heap.size, 0, none⟩ a).setCell ⟨w.heap.size, 1, none⟩ b).heap[w.heap.size]? = some (.cells #[a, b] 108 (0, 0)) ∧ Below w.heap.size w ((wx.setCell ⟨w.heap.size, 0, none⟩ a).setCell ⟨w.heap.size, 1, none⟩ b) ∧ ∀ v N, Nt wx v N → Nt ((wx.setCell ⟨w.heap.size, 0, none⟩ a).setCell ⟨w.heap.size, 1, none⟩ b) v N := by
 have h1 := heap_setCell_same wx w.heap.size 0 _ 108 a h.bl
 have h2 := heap_setCell_same _ w.heap.size 1 _ 108 b h1
 exact ⟨h2, Below.setCell (Below.setCell h.be (Nat.le_refl _) _) (Nat.le_refl _) _, fun v N hN => (hN.set h.bl 0 a).set h1 1 b⟩
theorem value70_2 (M : Nat) (p : Int) (hM : M < 10 ^ 500) (hp : -20000000 ≤ p ∧ p ≤ 20000000) (v : Value) (w : World) (hv : Nt w v M) :
  Calls Tryz.prog 70 #[v, .int .i64 2, .int .i64 p] w (ValR M 2 p w) := by
 have hp1 := hp.1
 have hp2 := hp.2
 have hM2 : M < 2 ^ 2000 := Nat.lt_of_lt_of_le hM (ten_two 500)
 have hSm : Sm M := Sm_of hM2 (by decide)
 have hNM := hid hv
 obtain ⟨ao, cap, hev, hcap, hmax, _⟩ := own_any hv
 unfold maxLen at hmax
 have hV := hid (VB.start w)
 have hz0 : w.heap.size < (w.alloc (.cells #[.slice none 0 0, .slice none 0 0] 108)).heap.size := by simp
 have hN0 := hid (hv.alloc (.cells #[.slice none 0 0, .slice none 0 0] 108))
 have hlM : ∀ h : M ≠ 0, 0 < (limbs M).length := fun h => List.length_pos_iff.2 (fun e => h (limbs_nil.1 e))
 clear hv
 by_cases hM0 : M = 0
 ·subst hM0
  rw [limbs_zero] at hev hcap
  subst hev
  clear hlM hSm hM2 hM hNM hN0
  have q0 := hV.out.c0
  have q1 := hV.out.c1
  have f0 := hV.out.f0
  have f1 := hV.out.f1
  go_enter Tryz.func70, Tryz.ntmps70
  go_wp2_with fail
  (try simp only [Exit.inBlock, Exit.then])
  have d1 := hV.out.bl
  have d2 := hV.out.be
  refine bodyPost_ret (v := .tuple #[.agg #[(.slice none 0 0), (.slice none 0 0)], .int .i64 0]) ?_ rfl ?_
  ·rw [results_cell_tmp rfl]
   have hload := run_loadVar_row (P := Tryz.prog) _ w.heap.size 108 108 _ (0, 0) _ d1 Tryz.underlying108 rfl (by kernel_rfl)
   simp [asAddr, Result.andThen, hload]
  ·exact ⟨_, _, _, _, _, _, _, rfl, d2, .inl ⟨rfl, .inl rfl⟩⟩
 have hl0 : (((limbs M).length : Int) == 0) = false := by have := hlM hM0; simpa using fun e => hM0 (limbs_nil.1 e)
 generalize hga : (limbs M).length = la at *
 subst hev
 replace hga := hid hga
 have hna := hid (fun (w1 : World) => nat51 1 (by decide) w1)
 obtain ⟨k, hk⟩ := bitN_ex M
 obtain ⟨k1, k2, k3⟩ := hk.2 hM0
 have hk2000 : k ≤ 2000 := by
  have := (Nat.pow_lt_pow_iff_right (by decide : 1 < 2)).1 (Nat.lt_of_le_of_lt k2 hM2)
  omega
 have hbi := hid (fun (w1 : World) (h : Nt w1 (.slice ao la cap) M) => bits102k M k hk hSm (.slice ao la cap) w1 h)
 have hK := hid (show 2 ^ (k - 1) ≤ M ∧ M < 2 ^ k from ⟨k2, k3⟩)
 clear hk k2 k3 hlM hM2 hM hM0 hNM
 go_enter Tryz.func70, Tryz.ntmps70
 go_wp2_with fail
 obtain ⟨w0, hw0⟩ : ∃ w0, w0 = w.alloc (.cells #[.slice none 0 0, .slice none 0 0] 108) := ⟨_, rfl⟩
 rw [← hw0] at hV hz0 hN0 ⊢
 have hw0' := hid hw0
 clear hw0
 refine (hna.out w0).mono ?_
 rintro e w1 ⟨v1, rfl, h1, h2⟩
 obtain ⟨ao1, n1, c1, rfl⟩ := h1.sh
 rw [show ((1 : Nat)) = 1 from rfl] at h1
 have hV := hid (hV.out.next h2 hz0)
 have hN1 := hid (hN0.out.mono h2 (Nat.le_refl _))
 have hz1 : w.heap.size < w1.heap.size := by have := h2.size; omega
 have h1' := hid h1
 clear h1
 replace h2 := hid h2
 by_cases hbig : 1100 < p + k
 ·have hfin := hid (two_huge hK.out.1 hbig)
  have q0 := hV.out.c0
  have q1 := hV.out.c1
  have f0 := hV.out.f0
  have f1 := hV.out.f1
  go_wp2_with (go_at_call 102; refine (hbi.out _ hN1.out).mono ?_; rintro e w2 ⟨rfl, rfl⟩)
  (try simp only [Exit.inBlock, Exit.then])
  obtain ⟨d1, d2, d3⟩ := hV.out.done (.slice none 0 0) (.slice none 0 0)
  refine bodyPost_ret (v := .tuple #[.agg #[(.slice none 0 0), (.slice none 0 0)], .int .i64 2]) ?_ rfl ?_
  ·rw [results_cell_tmp rfl]
   have hload := run_loadVar_row (P := Tryz.prog) _ w.heap.size 108 108 _ (0, 0) _ d1 Tryz.underlying108 rfl (by kernel_rfl)
   simp [asAddr, Result.andThen, hload]
  ·exact ⟨_, _, _, _, _, _, _, rfl, d2, .inr (.inl ⟨rfl, hfin.out⟩)⟩
 by_cases hsm : p + k < -1100
 ·have hfin := hid (two_tiny hK.out.2 hsm)
  have q0 := hV.out.c0
  have q1 := hV.out.c1
  have f0 := hV.out.f0
  have f1 := hV.out.f1
  go_wp2_with (go_at_call 102; refine (hbi.out _ hN1.out).mono ?_; rintro e w2 ⟨rfl, rfl⟩)
  (try simp only [Exit.inBlock, Exit.then])
  obtain ⟨d1, d2, d3⟩ := hV.out.done (.slice none 0 0) (.slice none 0 0)
  refine bodyPost_ret (v := .tuple #[.agg #[(.slice none 0 0), (.slice none 0 0)], .int .i64 0]) ?_ rfl ?_
  ·rw [results_cell_tmp rfl]
   have hload := run_loadVar_row (P := Tryz.prog) _ w.heap.size 108 108 _ (0, 0) _ d1 Tryz.underlying108 rfl (by kernel_rfl)
   simp [asAddr, Result.andThen, hload]
  ·exact ⟨_, _, _, _, _, _, _, rfl, d2, .inl ⟨rfl, .inr hfin.out⟩⟩
 by_cases hp0 : 0 ≤ p
 ·obtain ⟨q, rfl⟩ : ∃ q : Nat, p = (q : Int) := ⟨p.toNat, by omega⟩
  have hsz : M * 2 ^ q < 2 ^ (k + q) := by rw [Nat.pow_add]; exact Nat.mul_lt_mul_of_pos_right hK.out.2 (Nat.pow_pos (by decide))
  have htw := hid (twos80 M q (k + q) hsz (by omega) (.slice ao la cap) w1 hN1.out)
  have hb20 := hid (show M * 2 ^ q < 2 ^ 20000 ∧ 2 ^ 0 < 2 ^ 20000 from ⟨nt_bd hsz (by omega), Nat.pow_lt_pow_right (by decide) (by decide)⟩)
  clear hsz
  go_wp2_with (go_at_call 102; refine (hbi.out _ hN1.out).mono ?_; rintro e w2 ⟨rfl, rfl⟩)
  refine htw.out.mono ?_
  rintro e w2 ⟨v2, rfl, h3, h4⟩
  obtain ⟨ao2, n2, c2, rfl⟩ := h3.sh
  have hV := hid (hV.out.next h4 hz1)
  have hr1 := hid (h1'.out.mono h4 (Nat.le_refl _))
  have h3' := hid h3
  clear h3
  replace h4 := hid h4
  have q0 := hV.out.c0
  have q1 := hV.out.c1
  have f0 := hV.out.f0
  have f1 := hV.out.f1
  go_wp2_with fail
  (try simp only [Exit.inBlock, Exit.then])
  obtain ⟨d1, d2, d3⟩ := hV.out.done (.slice ao2 n2 c2) (.slice ao1 n1 c1)
  refine bodyPost_ret (v := .tuple #[.agg #[(.slice ao2 n2 c2), (.slice ao1 n1 c1)], .int .i64 1]) ?_ rfl ?_
  ·rw [results_cell_tmp rfl]
   have hload := run_loadVar_row (P := Tryz.prog) _ w.heap.size 108 108 _ (0, 0) _ d1 Tryz.underlying108 rfl (by kernel_rfl)
   simp [asAddr, Result.andThen, hload]
  ·exact ⟨_, _, _, _, _, _, _, rfl, d2, .inr (.inr ⟨rfl, by rw [show ((q : Int)).toNat = q by omega]; exact d3 _ _ h3'.out, by rw [show (-(q : Int)).toNat = 0 by omega, Nat.pow_zero]; exact d3 _ _ hr1.out, by rw [show ((q : Int)).toNat = q by omega]; exact hb20.out.1, by rw [show (-(q : Int)).toNat = 0 by omega]; exact hb20.out.2⟩)⟩
 ·obtain ⟨q, rfl⟩ : ∃ q : Nat, p = -(q : Int) := ⟨(-p).toNat, by omega⟩
  have hsz : 1 * 2 ^ q < 2 ^ (1 + q) := by rw [Nat.pow_add]; exact Nat.mul_lt_mul_of_pos_right (by decide) (Nat.pow_pos (by decide))
  have htw := hid (twos80 1 q (1 + q) hsz (by omega) (.slice ao1 n1 c1) w1 h1'.out)
  have hb20 := hid (show 1 * 2 ^ q < 2 ^ 20000 ∧ M < 2 ^ 20000 from ⟨nt_bd hsz (by omega), nt_bd hK.out.2 (by omega)⟩)
  have hng : -(-(q : Int)) = (q : Int) := by omega
  have hp0' : -(q : Int) < 0 := by omega
  clear hsz
  go_wp2_with (go_at_call 102; refine (hbi.out _ hN1.out).mono ?_; rintro e w2 ⟨rfl, rfl⟩)
  refine htw.out.mono ?_
  rintro e w2 ⟨v2, rfl, h3, h4⟩
  obtain ⟨ao2, n2, c2, rfl⟩ := h3.sh
  have hV := hid (hV.out.next h4 hz1)
  have hr1 := hid (hN1.out.mono h4 (Nat.le_refl _))
  have h3' := hid h3
  clear h3
  replace h4 := hid h4
  have q0 := hV.out.c0
  have q1 := hV.out.c1
  have f0 := hV.out.f0
  have f1 := hV.out.f1
  go_wp2_with fail
  (try simp only [Exit.inBlock, Exit.then])
  obtain ⟨d1, d2, d3⟩ := hV.out.done (.slice ao la cap) (.slice ao2 n2 c2)
  refine bodyPost_ret (v := .tuple #[.agg #[(.slice ao la cap), (.slice ao2 n2 c2)], .int .i64 1]) ?_ rfl ?_
  ·rw [results_cell_tmp rfl]
   have hload := run_loadVar_row (P := Tryz.prog) _ w.heap.size 108 108 _ (0, 0) _ d1 Tryz.underlying108 rfl (by kernel_rfl)
   simp [asAddr, Result.andThen, hload]
  ·exact ⟨_, _, _, _, _, _, _, rfl, d2, .inr (.inr ⟨rfl, by rw [show (-(q : Int)).toNat = 0 by omega, Nat.pow_zero, Nat.mul_one]; exact d3 _ _ hr1.out, by rw [show (- -(q : Int)).toNat = q by omega, ← Nat.one_mul (2 ^ q)]; exact d3 _ _ h3'.out, by rw [show (-(q : Int)).toNat = 0 by omega, Nat.pow_zero, Nat.mul_one]; exact hb20.out.2, by rw [show (- -(q : Int)).toNat = q by omega, ← Nat.one_mul (2 ^ q)]; exact hb20.out.1⟩)⟩
theorem value70_10 (M : Nat) (p : Int) (hM : M < 10 ^ 500) (hp : -20000000 ≤ p ∧ p ≤ 20000000) (v : Value) (w : World) (hv : Nt w v M) :
  Calls Tryz.prog 70 #[v, .int .i64 10, .int .i64 p] w (ValR M 10 p w) := by
 have hp1 := hp.1
 have hp2 := hp.2
 have hM2 : M < 2 ^ 2000 := Nat.lt_of_lt_of_le hM (ten_two 500)
 have hSm : Sm M := Sm_of hM2 (by decide)
 have hNM := hid hv
 obtain ⟨ao, cap, hev, hcap, hmax, _⟩ := own_any hv
 unfold maxLen at hmax
 have hV := hid (VB.start w)
 have hz0 : w.heap.size < (w.alloc (.cells #[.slice none 0 0, .slice none 0 0] 108)).heap.size := by simp
 have hN0 := hid (hv.alloc (.cells #[.slice none 0 0, .slice none 0 0] 108))
 have hlM : ∀ h : M ≠ 0, 0 < (limbs M).length := fun h => List.length_pos_iff.2 (fun e => h (limbs_nil.1 e))
 clear hv
 by_cases hM0 : M = 0
 ·subst hM0
  rw [limbs_zero] at hev hcap
  subst hev
  clear hlM hSm hM2 hM hNM hN0
  have q0 := hV.out.c0
  have q1 := hV.out.c1
  have f0 := hV.out.f0
  have f1 := hV.out.f1
  go_enter Tryz.func70, Tryz.ntmps70
  go_wp2_with fail
  (try simp only [Exit.inBlock, Exit.then])
  have d1 := hV.out.bl
  have d2 := hV.out.be
  refine bodyPost_ret (v := .tuple #[.agg #[(.slice none 0 0), (.slice none 0 0)], .int .i64 0]) ?_ rfl ?_
  ·rw [results_cell_tmp rfl]
   have hload := run_loadVar_row (P := Tryz.prog) _ w.heap.size 108 108 _ (0, 0) _ d1 Tryz.underlying108 rfl (by kernel_rfl)
   simp [asAddr, Result.andThen, hload]
  ·exact ⟨_, _, _, _, _, _, _, rfl, d2, .inl ⟨rfl, .inl rfl⟩⟩
 have hl0 : (((limbs M).length : Int) == 0) = false := by have := hlM hM0; simpa using fun e => hM0 (limbs_nil.1 e)
 generalize hga : (limbs M).length = la at *
 subst hev
 replace hga := hid hga
 have hna := hid (fun (w1 : World) => nat51 1 (by decide) w1)
 obtain ⟨k1, k2, k3⟩ := digits_len M hM0
 obtain ⟨txt, htxt⟩ : ∃ txt : ByteArray, txt = ⟨(Lib.decDigits M).toArray⟩ := ⟨_, rfl⟩
 obtain ⟨k, hkk⟩ : ∃ k, k = (Lib.decDigits M).length := ⟨_, rfl⟩
 have hts : txt.size = k := by rw [htxt, hkk]; rfl
 rw [← hkk] at k1 k2 k3
 have hk500 : k ≤ 500 := by
  have := (Nat.pow_lt_pow_iff_right (by decide : 1 < 10)).1 (Nat.lt_of_le_of_lt k2 hM)
  omega
 have hdc := hid (fun (w1 : World) (h : Nt w1 (.slice ao la cap) M) => decimal52 M 500 hM (by decide) (.slice ao la cap) w1 h)
 rw [← htxt] at hdc
 have hK := hid (show 10 ^ (k - 1) ≤ M ∧ M < 10 ^ k from ⟨k2, k3⟩)
 replace htxt := hid htxt
 replace hkk := hid hkk
 clear k2 k3 hlM hM2 hM hM0 hNM
 go_enter Tryz.func70, Tryz.ntmps70
 go_wp2_with fail
 obtain ⟨w0, hw0⟩ : ∃ w0, w0 = w.alloc (.cells #[.slice none 0 0, .slice none 0 0] 108) := ⟨_, rfl⟩
 rw [← hw0] at hV hz0 hN0 ⊢
 have hw0' := hid hw0
 clear hw0
 refine (hna.out w0).mono ?_
 rintro e w1 ⟨v1, rfl, h1, h2⟩
 obtain ⟨ao1, n1, c1, rfl⟩ := h1.sh
 rw [show ((1 : Nat)) = 1 from rfl] at h1
 have hV := hid (hV.out.next h2 hz0)
 have hN1 := hid (hN0.out.mono h2 (Nat.le_refl _))
 have hz1 : w.heap.size < w1.heap.size := by have := h2.size; omega
 have h1' := hid h1
 clear h1
 replace h2 := hid h2
 go_wp2_with fail
 refine (hdc.out w1 hN1.out).mono ?_
 rintro e w3 ⟨rfl, h5⟩
 have hV := hid (hV.out.next h5 hz1)
 have hN3 := hid (hN1.out.mono h5 (Nat.le_refl _))
 have h13 := hid (h1'.out.mono h5 (Nat.le_refl _))
 have hz3 : w.heap.size < w3.heap.size := by have := h5.size; omega
 replace h5 := hid h5
 by_cases hbig : 400 < p + k
 ·have hfin := hid (ten_huge hK.out.1 hbig)
  have q0 := hV.out.c0
  have q1 := hV.out.c1
  have f0 := hV.out.f0
  have f1 := hV.out.f1
  go_wp2_with fail
  (try simp only [Exit.inBlock, Exit.then])
  obtain ⟨d1, d2, d3⟩ := hV.out.done (.slice none 0 0) (.slice none 0 0)
  refine bodyPost_ret (v := .tuple #[.agg #[(.slice none 0 0), (.slice none 0 0)], .int .i64 2]) ?_ rfl ?_
  ·rw [results_cell_tmp rfl]
   have hload := run_loadVar_row (P := Tryz.prog) _ w.heap.size 108 108 _ (0, 0) _ d1 Tryz.underlying108 rfl (by kernel_rfl)
   simp [asAddr, Result.andThen, hload]
  ·exact ⟨_, _, _, _, _, _, _, rfl, d2, .inr (.inl ⟨rfl, hfin.out⟩)⟩
 by_cases hsm : p + k < -400
 ·have hfin := hid (ten_tiny hK.out.2 hsm)
  have q0 := hV.out.c0
  have q1 := hV.out.c1
  have f0 := hV.out.f0
  have f1 := hV.out.f1
  go_wp2_with fail
  (try simp only [Exit.inBlock, Exit.then])
  obtain ⟨d1, d2, d3⟩ := hV.out.done (.slice none 0 0) (.slice none 0 0)
  refine bodyPost_ret (v := .tuple #[.agg #[(.slice none 0 0), (.slice none 0 0)], .int .i64 0]) ?_ rfl ?_
  ·rw [results_cell_tmp rfl]
   have hload := run_loadVar_row (P := Tryz.prog) _ w.heap.size 108 108 _ (0, 0) _ d1 Tryz.underlying108 rfl (by kernel_rfl)
   simp [asAddr, Result.andThen, hload]
  ·exact ⟨_, _, _, _, _, _, _, rfl, d2, .inl ⟨rfl, .inr hfin.out⟩⟩
 by_cases hp0 : 0 ≤ p
 ·obtain ⟨q, rfl⟩ : ∃ q : Nat, p = (q : Int) := ⟨p.toNat, by omega⟩
  have hsz : M * 10 ^ q < 2 ^ (4 * (k + q)) := Nat.lt_of_lt_of_le (show M * 10 ^ q < 10 ^ (k + q) by rw [Nat.pow_add]; exact Nat.mul_lt_mul_of_pos_right hK.out.2 (Nat.pow_pos (by decide))) (ten_two _)
  have htw := hid (tens81 M q (4 * (k + q)) hsz (by omega) (by omega) (.slice ao la cap) w3 hN3.out)
  have hb20 := hid (show M * 10 ^ q < 2 ^ 20000 ∧ 10 ^ 0 < 2 ^ 20000 from ⟨nt_bd hsz (by omega), by rw [Nat.pow_zero]; exact Nat.one_lt_two_pow (by decide)⟩)
  clear hsz
  go_wp2_with fail
  refine htw.out.mono ?_
  rintro e w2 ⟨v2, rfl, h3, h4⟩
  obtain ⟨ao2, n2, c2, rfl⟩ := h3.sh
  have hV := hid (hV.out.next h4 hz3)
  have hr1 := hid (h13.out.mono h4 (Nat.le_refl _))
  have h3' := hid h3
  clear h3
  replace h4 := hid h4
  have q0 := hV.out.c0
  have q1 := hV.out.c1
  have f0 := hV.out.f0
  have f1 := hV.out.f1
  go_wp2_with fail
  (try simp only [Exit.inBlock, Exit.then])
  obtain ⟨d1, d2, d3⟩ := hV.out.done (.slice ao2 n2 c2) (.slice ao1 n1 c1)
  refine bodyPost_ret (v := .tuple #[.agg #[(.slice ao2 n2 c2), (.slice ao1 n1 c1)], .int .i64 1]) ?_ rfl ?_
  ·rw [results_cell_tmp rfl]
   have hload := run_loadVar_row (P := Tryz.prog) _ w.heap.size 108 108 _ (0, 0) _ d1 Tryz.underlying108 rfl (by kernel_rfl)
   simp [asAddr, Result.andThen, hload]
  ·exact ⟨_, _, _, _, _, _, _, rfl, d2, .inr (.inr ⟨rfl, by rw [show ((q : Int)).toNat = q by omega]; exact d3 _ _ h3'.out, by rw [show (-(q : Int)).toNat = 0 by omega, Nat.pow_zero]; exact d3 _ _ hr1.out, by rw [show ((q : Int)).toNat = q by omega]; exact hb20.out.1, by rw [show (-(q : Int)).toNat = 0 by omega]; exact hb20.out.2⟩)⟩
 ·obtain ⟨q, rfl⟩ : ∃ q : Nat, p = -(q : Int) := ⟨(-p).toNat, by omega⟩
  have hsz : 1 * 10 ^ q < 2 ^ (4 * (1 + q)) := Nat.lt_of_lt_of_le (show 1 * 10 ^ q < 10 ^ (1 + q) by rw [Nat.pow_add]; exact Nat.mul_lt_mul_of_pos_right (by decide) (Nat.pow_pos (by decide))) (ten_two _)
  have htw := hid (tens81 1 q (4 * (1 + q)) hsz (by omega) (by omega) (.slice ao1 n1 c1) w3 h13.out)
  have hb20 := hid (show 1 * 10 ^ q < 2 ^ 20000 ∧ M < 2 ^ 20000 from ⟨nt_bd hsz (by omega), nt_bd (Nat.lt_of_lt_of_le hK.out.2 (ten_two k)) (by omega)⟩)
  have hng : -(-(q : Int)) = (q : Int) := by omega
  have hp0' : -(q : Int) < 0 := by omega
  clear hsz
  go_wp2_with fail
  refine htw.out.mono ?_
  rintro e w2 ⟨v2, rfl, h3, h4⟩
  obtain ⟨ao2, n2, c2, rfl⟩ := h3.sh
  have hV := hid (hV.out.next h4 hz3)
  have hr1 := hid (hN3.out.mono h4 (Nat.le_refl _))
  have h3' := hid h3
  clear h3
  replace h4 := hid h4
  have q0 := hV.out.c0
  have q1 := hV.out.c1
  have f0 := hV.out.f0
  have f1 := hV.out.f1
  go_wp2_with fail
  (try simp only [Exit.inBlock, Exit.then])
  obtain ⟨d1, d2, d3⟩ := hV.out.done (.slice ao la cap) (.slice ao2 n2 c2)
  refine bodyPost_ret (v := .tuple #[.agg #[(.slice ao la cap), (.slice ao2 n2 c2)], .int .i64 1]) ?_ rfl ?_
  ·rw [results_cell_tmp rfl]
   have hload := run_loadVar_row (P := Tryz.prog) _ w.heap.size 108 108 _ (0, 0) _ d1 Tryz.underlying108 rfl (by kernel_rfl)
   simp [asAddr, Result.andThen, hload]
  ·exact ⟨_, _, _, _, _, _, _, rfl, d2, .inr (.inr ⟨rfl, by rw [show (-(q : Int)).toNat = 0 by omega, Nat.pow_zero, Nat.mul_one]; exact d3 _ _ hr1.out, by rw [show (- -(q : Int)).toNat = q by omega, ← Nat.one_mul (10 ^ q)]; exact d3 _ _ h3'.out, by rw [show (-(q : Int)).toNat = 0 by omega, Nat.pow_zero, Nat.mul_one]; exact hb20.out.2, by rw [show (- -(q : Int)).toNat = q by omega, ← Nat.one_mul (10 ^ q)]; exact hb20.out.1⟩)⟩
def RdR (r INF : Nat) (w : World) (e : Ending) (w' : World) : Prop := ∃ x : Nat, e = .returned (.tuple #[.int .u64 (x : Int), .bool (decide (r < INF))]) ∧ (r < INF → x = r) ∧ x ≤ INF ∧ Below w.heap.size w w'
theorem read34_64_2 (M : Nat) (p : Int) (hM : M < 10 ^ 500) (hp : -20000000 ≤ p ∧ p ≤ 20000000) (v : Value) (w : World) (hv : Nt w v M) :
  Calls Tryz.prog 34 #[.agg #[.int .i64 52, .int .i64 11, .int .i64 (-1074)], v, .int .i64 2, .int .i64 p] w (RdR (rdV 52 1074 2 M p) 9218868437227405312 w) := by
 obtain ⟨r, hr⟩ : ∃ r, r = rdV 52 1074 2 M p := ⟨_, rfl⟩
 rw [← hr]
 have hB0 := hid ((Below.refl w.heap.size w).alloc (Nat.le_refl _) (.cells #[.int .i64 52, .int .i64 11, .int .i64 (-1074)] 27))
 have hz0 : (w.alloc (.cells #[.int .i64 52, .int .i64 11, .int .i64 (-1074)] 27)).heap.size = w.heap.size + 1 := by simp
 have l0 : (w.alloc (.cells #[.int .i64 52, .int .i64 11, .int .i64 (-1074)] 27)).cell? ⟨w.heap.size, 0, none⟩ = some (.int .i64 52) := by simp
 have l1 : (w.alloc (.cells #[.int .i64 52, .int .i64 11, .int .i64 (-1074)] 27)).cell? ⟨w.heap.size, 1, none⟩ = some (.int .i64 11) := by simp
 have l2 : (w.alloc (.cells #[.int .i64 52, .int .i64 11, .int .i64 (-1074)] 27)).cell? ⟨w.heap.size, 2, none⟩ = some (.int .i64 (-1074)) := by simp
 have hva := hid (value70_2 M p hM hp v _ (hv.alloc (.cells #[.int .i64 52, .int .i64 11, .int .i64 (-1074)] 27)))
 obtain ⟨ao, n, c, rfl⟩ := hv.sh
 have hp1 := hp.1
 have hp2 := hp.2
 have hr' := hid hr
 clear hv hM hr
 obtain ⟨w0, hw0⟩ : ∃ w0, w0 = w.alloc (.cells #[.int .i64 52, .int .i64 11, .int .i64 (-1074)] 27) := ⟨_, rfl⟩
 rw [← hw0] at hB0 hz0 l0 l1 l2 hva
 go_enter Tryz.func34, Tryz.ntmps34
 go_wp2_with fail
 rw [← hw0]
 have hw0' := hid hw0
 clear hw0
 refine hva.out.mono ?_
 rintro e w1 ⟨ao1, n1, c1, ao2, n2, c2, tag, rfl, hb1, hcase⟩
 have hB1 := hid (hB0.out.trans (hb1.mono (by omega)))
 have hz1 : w.heap.size + 1 ≤ w1.heap.size := by have := hb1.size; omega
 have hz1' : w.heap.size < w1.heap.size := by omega
 have m0 := (hb1.cell (p := ⟨w.heap.size, 0, none⟩) (show w.heap.size < w0.heap.size by omega)).trans l0
 have m1 := (hb1.cell (p := ⟨w.heap.size, 1, none⟩) (show w.heap.size < w0.heap.size by omega)).trans l1
 have m2 := (hb1.cell (p := ⟨w.heap.size, 2, none⟩) (show w.heap.size < w0.heap.size by omega)).trans l2
 have hB2 := hid (hB1.out.alloc (by omega) (.cells #[.slice ao1 n1 c1, .slice ao2 n2 c2] 108))
 replace hb1 := hid hb1
 clear l0 l1 l2
 rcases hcase with ⟨rfl, hc⟩ | ⟨rfl, hc⟩ | ⟨rfl, hc1, hc2, hc3, hc4⟩
 ·have hr0 : r = 0 := by
   rw [hr'.out]
   rcases hc with h | h
   ·rw [h]; exact rdV_zero 52 1074 2 p (by decide)
   ·refine rdV_tiny (by decide) (Nat.lt_of_le_of_lt ?_ h)
    exact Nat.mul_le_mul_left _ (Nat.mul_le_mul_left _ (Nat.pow_le_pow_right (by decide) (by decide)))
  replace hc := hid hc
  subst hr0
  go_wp2_with fail
  go_ret2
  exact ⟨0, rfl, fun _ => rfl, by decide, hB2.out⟩
 ·have hr0 : 9218868437227405312 ≤ r := by
   rw [hr'.out]
   refine rdV_huge (K := 1024) (by decide) val_inf64 (Nat.le_trans ?_ hc)
   exact Nat.mul_le_mul_right _ (Nat.pow_le_pow_right (by decide) (by decide))
  have hr1 : decide (r < 9218868437227405312) = false := decide_eq_false (by omega)
  have hfin := hid (show RdR r 9218868437227405312 w (.returned (.tuple #[.int .u64 0, .bool false])) (w1.alloc (.cells #[.slice ao1 n1 c1, .slice ao2 n2 c2] 108)) from ⟨0, by rw [hr1]; rfl, fun h => by omega, by decide, hB2.out⟩)
  clear hc hr0 hr1
  go_wp2_with fail
  go_ret2
  exact hfin.out
 ·have hne := hid (nearest71_64 (M * 2 ^ p.toNat) (2 ^ (-p).toNat) hc3 hc4 (Nat.pow_pos (by decide)) (.slice ao1 n1 c1) (.slice ao2 n2 c2) _ (hc1.alloc (.cells #[.slice ao1 n1 c1, .slice ao2 n2 c2] 108)) (hc2.alloc _))
  have hrr : nr 52 (M * 2 ^ p.toNat * 2 ^ 1074) (2 ^ (-p).toNat) = r := by rw [hr'.out]; rfl
  rw [hrr] at hne
  have hmi := hid (show (r < 9218868437227405312 → min r 9218868437227405312 = r) ∧ min r 9218868437227405312 ≤ 9218868437227405312 from ⟨fun h => by omega, by omega⟩)
  generalize min r 9218868437227405312 = x at *
  replace hc1 := hid hc1
  replace hc2 := hid hc2
  replace hrr := hid hrr
  have hz2 : (w1.alloc (.cells #[.slice ao1 n1 c1, .slice ao2 n2 c2] 108)).heap.size = w1.heap.size + 1 := by simp
  clear hc3 hc4
  go_wp2_with fail
  refine hne.out.mono ?_
  rintro e w3 ⟨rfl, hb3⟩
  have hB3 := hid (hB2.out.trans (hb3.mono (by omega)))
  replace hb3 := hid hb3
  go_wp2_with fail
  go_ret2
  exact ⟨x, rfl, hmi.out.1, hmi.out.2, hB3.out⟩
theorem read34_64_10 (M : Nat) (p : Int) (hM : M < 10 ^ 500) (hp : -20000000 ≤ p ∧ p ≤ 20000000) (v : Value) (w : World) (hv : Nt w v M) :
  Calls Tryz.prog 34 #[.agg #[.int .i64 52, .int .i64 11, .int .i64 (-1074)], v, .int .i64 10, .int .i64 p] w (RdR (rdV 52 1074 10 M p) 9218868437227405312 w) := by
 obtain ⟨r, hr⟩ : ∃ r, r = rdV 52 1074 10 M p := ⟨_, rfl⟩
 rw [← hr]
 have hB0 := hid ((Below.refl w.heap.size w).alloc (Nat.le_refl _) (.cells #[.int .i64 52, .int .i64 11, .int .i64 (-1074)] 27))
 have hz0 : (w.alloc (.cells #[.int .i64 52, .int .i64 11, .int .i64 (-1074)] 27)).heap.size = w.heap.size + 1 := by simp
 have l0 : (w.alloc (.cells #[.int .i64 52, .int .i64 11, .int .i64 (-1074)] 27)).cell? ⟨w.heap.size, 0, none⟩ = some (.int .i64 52) := by simp
 have l1 : (w.alloc (.cells #[.int .i64 52, .int .i64 11, .int .i64 (-1074)] 27)).cell? ⟨w.heap.size, 1, none⟩ = some (.int .i64 11) := by simp
 have l2 : (w.alloc (.cells #[.int .i64 52, .int .i64 11, .int .i64 (-1074)] 27)).cell? ⟨w.heap.size, 2, none⟩ = some (.int .i64 (-1074)) := by simp
 have hva := hid (value70_10 M p hM hp v _ (hv.alloc (.cells #[.int .i64 52, .int .i64 11, .int .i64 (-1074)] 27)))
 obtain ⟨ao, n, c, rfl⟩ := hv.sh
 have hp1 := hp.1
 have hp2 := hp.2
 have hr' := hid hr
 clear hv hM hr
 obtain ⟨w0, hw0⟩ : ∃ w0, w0 = w.alloc (.cells #[.int .i64 52, .int .i64 11, .int .i64 (-1074)] 27) := ⟨_, rfl⟩
 rw [← hw0] at hB0 hz0 l0 l1 l2 hva
 go_enter Tryz.func34, Tryz.ntmps34
 go_wp2_with fail
 rw [← hw0]
 have hw0' := hid hw0
 clear hw0
 refine hva.out.mono ?_
 rintro e w1 ⟨ao1, n1, c1, ao2, n2, c2, tag, rfl, hb1, hcase⟩
 have hB1 := hid (hB0.out.trans (hb1.mono (by omega)))
 have hz1 : w.heap.size + 1 ≤ w1.heap.size := by have := hb1.size; omega
 have hz1' : w.heap.size < w1.heap.size := by omega
 have m0 := (hb1.cell (p := ⟨w.heap.size, 0, none⟩) (show w.heap.size < w0.heap.size by omega)).trans l0
 have m1 := (hb1.cell (p := ⟨w.heap.size, 1, none⟩) (show w.heap.size < w0.heap.size by omega)).trans l1
 have m2 := (hb1.cell (p := ⟨w.heap.size, 2, none⟩) (show w.heap.size < w0.heap.size by omega)).trans l2
 have hB2 := hid (hB1.out.alloc (by omega) (.cells #[.slice ao1 n1 c1, .slice ao2 n2 c2] 108))
 replace hb1 := hid hb1
 clear l0 l1 l2
 rcases hcase with ⟨rfl, hc⟩ | ⟨rfl, hc⟩ | ⟨rfl, hc1, hc2, hc3, hc4⟩
 ·have hr0 : r = 0 := by
   rw [hr'.out]
   rcases hc with h | h
   ·rw [h]; exact rdV_zero 52 1074 10 p (by decide)
   ·refine rdV_tiny (by decide) (Nat.lt_of_le_of_lt ?_ h)
    exact Nat.mul_le_mul_left _ (Nat.mul_le_mul_left _ (Nat.pow_le_pow_right (by decide) (by decide)))
  replace hc := hid hc
  subst hr0
  go_wp2_with fail
  go_ret2
  exact ⟨0, rfl, fun _ => rfl, by decide, hB2.out⟩
 ·have hr0 : 9218868437227405312 ≤ r := by
   rw [hr'.out]
   refine rdV_huge (K := 1024) (by decide) val_inf64 (Nat.le_trans ?_ hc)
   exact Nat.mul_le_mul_right _ (Nat.pow_le_pow_right (by decide) (by decide))
  have hr1 : decide (r < 9218868437227405312) = false := decide_eq_false (by omega)
  have hfin := hid (show RdR r 9218868437227405312 w (.returned (.tuple #[.int .u64 0, .bool false])) (w1.alloc (.cells #[.slice ao1 n1 c1, .slice ao2 n2 c2] 108)) from ⟨0, by rw [hr1]; rfl, fun h => by omega, by decide, hB2.out⟩)
  clear hc hr0 hr1
  go_wp2_with fail
  go_ret2
  exact hfin.out
 ·have hne := hid (nearest71_64 (M * 10 ^ p.toNat) (10 ^ (-p).toNat) hc3 hc4 (Nat.pow_pos (by decide)) (.slice ao1 n1 c1) (.slice ao2 n2 c2) _ (hc1.alloc (.cells #[.slice ao1 n1 c1, .slice ao2 n2 c2] 108)) (hc2.alloc _))
  have hrr : nr 52 (M * 10 ^ p.toNat * 2 ^ 1074) (10 ^ (-p).toNat) = r := by rw [hr'.out]; rfl
  rw [hrr] at hne
  have hmi := hid (show (r < 9218868437227405312 → min r 9218868437227405312 = r) ∧ min r 9218868437227405312 ≤ 9218868437227405312 from ⟨fun h => by omega, by omega⟩)
  generalize min r 9218868437227405312 = x at *
  replace hc1 := hid hc1
  replace hc2 := hid hc2
  replace hrr := hid hrr
  have hz2 : (w1.alloc (.cells #[.slice ao1 n1 c1, .slice ao2 n2 c2] 108)).heap.size = w1.heap.size + 1 := by simp
  clear hc3 hc4
  go_wp2_with fail
  refine hne.out.mono ?_
  rintro e w3 ⟨rfl, hb3⟩
  have hB3 := hid (hB2.out.trans (hb3.mono (by omega)))
  replace hb3 := hid hb3
  go_wp2_with fail
  go_ret2
  exact ⟨x, rfl, hmi.out.1, hmi.out.2, hB3.out⟩
theorem read34_32_2 (M : Nat) (p : Int) (hM : M < 10 ^ 500) (hp : -20000000 ≤ p ∧ p ≤ 20000000) (v : Value) (w : World) (hv : Nt w v M) :
  Calls Tryz.prog 34 #[.agg #[.int .i64 23, .int .i64 8, .int .i64 (-149)], v, .int .i64 2, .int .i64 p] w (RdR (rdV 23 149 2 M p) 2139095040 w) := by
 obtain ⟨r, hr⟩ : ∃ r, r = rdV 23 149 2 M p := ⟨_, rfl⟩
 rw [← hr]
 have hB0 := hid ((Below.refl w.heap.size w).alloc (Nat.le_refl _) (.cells #[.int .i64 23, .int .i64 8, .int .i64 (-149)] 27))
 have hz0 : (w.alloc (.cells #[.int .i64 23, .int .i64 8, .int .i64 (-149)] 27)).heap.size = w.heap.size + 1 := by simp
 have l0 : (w.alloc (.cells #[.int .i64 23, .int .i64 8, .int .i64 (-149)] 27)).cell? ⟨w.heap.size, 0, none⟩ = some (.int .i64 23) := by simp
 have l1 : (w.alloc (.cells #[.int .i64 23, .int .i64 8, .int .i64 (-149)] 27)).cell? ⟨w.heap.size, 1, none⟩ = some (.int .i64 8) := by simp
 have l2 : (w.alloc (.cells #[.int .i64 23, .int .i64 8, .int .i64 (-149)] 27)).cell? ⟨w.heap.size, 2, none⟩ = some (.int .i64 (-149)) := by simp
 have hva := hid (value70_2 M p hM hp v _ (hv.alloc (.cells #[.int .i64 23, .int .i64 8, .int .i64 (-149)] 27)))
 obtain ⟨ao, n, c, rfl⟩ := hv.sh
 have hp1 := hp.1
 have hp2 := hp.2
 have hr' := hid hr
 clear hv hM hr
 obtain ⟨w0, hw0⟩ : ∃ w0, w0 = w.alloc (.cells #[.int .i64 23, .int .i64 8, .int .i64 (-149)] 27) := ⟨_, rfl⟩
 rw [← hw0] at hB0 hz0 l0 l1 l2 hva
 go_enter Tryz.func34, Tryz.ntmps34
 go_wp2_with fail
 rw [← hw0]
 have hw0' := hid hw0
 clear hw0
 refine hva.out.mono ?_
 rintro e w1 ⟨ao1, n1, c1, ao2, n2, c2, tag, rfl, hb1, hcase⟩
 have hB1 := hid (hB0.out.trans (hb1.mono (by omega)))
 have hz1 : w.heap.size + 1 ≤ w1.heap.size := by have := hb1.size; omega
 have hz1' : w.heap.size < w1.heap.size := by omega
 have m0 := (hb1.cell (p := ⟨w.heap.size, 0, none⟩) (show w.heap.size < w0.heap.size by omega)).trans l0
 have m1 := (hb1.cell (p := ⟨w.heap.size, 1, none⟩) (show w.heap.size < w0.heap.size by omega)).trans l1
 have m2 := (hb1.cell (p := ⟨w.heap.size, 2, none⟩) (show w.heap.size < w0.heap.size by omega)).trans l2
 have hB2 := hid (hB1.out.alloc (by omega) (.cells #[.slice ao1 n1 c1, .slice ao2 n2 c2] 108))
 replace hb1 := hid hb1
 clear l0 l1 l2
 rcases hcase with ⟨rfl, hc⟩ | ⟨rfl, hc⟩ | ⟨rfl, hc1, hc2, hc3, hc4⟩
 ·have hr0 : r = 0 := by
   rw [hr'.out]
   rcases hc with h | h
   ·rw [h]; exact rdV_zero 23 149 2 p (by decide)
   ·refine rdV_tiny (by decide) (Nat.lt_of_le_of_lt ?_ h)
    exact Nat.mul_le_mul_left _ (Nat.mul_le_mul_left _ (Nat.pow_le_pow_right (by decide) (by decide)))
  replace hc := hid hc
  subst hr0
  go_wp2_with fail
  go_ret2
  exact ⟨0, rfl, fun _ => rfl, by decide, hB2.out⟩
 ·have hr0 : 2139095040 ≤ r := by
   rw [hr'.out]
   refine rdV_huge (K := 128) (by decide) val_inf32 (Nat.le_trans ?_ hc)
   exact Nat.mul_le_mul_right _ (Nat.pow_le_pow_right (by decide) (by decide))
  have hr1 : decide (r < 2139095040) = false := decide_eq_false (by omega)
  have hfin := hid (show RdR r 2139095040 w (.returned (.tuple #[.int .u64 0, .bool false])) (w1.alloc (.cells #[.slice ao1 n1 c1, .slice ao2 n2 c2] 108)) from ⟨0, by rw [hr1]; rfl, fun h => by omega, by decide, hB2.out⟩)
  clear hc hr0 hr1
  go_wp2_with fail
  go_ret2
  exact hfin.out
 ·have hne := hid (nearest71_32 (M * 2 ^ p.toNat) (2 ^ (-p).toNat) hc3 hc4 (Nat.pow_pos (by decide)) (.slice ao1 n1 c1) (.slice ao2 n2 c2) _ (hc1.alloc (.cells #[.slice ao1 n1 c1, .slice ao2 n2 c2] 108)) (hc2.alloc _))
  have hrr : nr 23 (M * 2 ^ p.toNat * 2 ^ 149) (2 ^ (-p).toNat) = r := by rw [hr'.out]; rfl
  rw [hrr] at hne
  have hmi := hid (show (r < 2139095040 → min r 2139095040 = r) ∧ min r 2139095040 ≤ 2139095040 from ⟨fun h => by omega, by omega⟩)
  generalize min r 2139095040 = x at *
  replace hc1 := hid hc1
  replace hc2 := hid hc2
  replace hrr := hid hrr
  have hz2 : (w1.alloc (.cells #[.slice ao1 n1 c1, .slice ao2 n2 c2] 108)).heap.size = w1.heap.size + 1 := by simp
  clear hc3 hc4
  go_wp2_with fail
  refine hne.out.mono ?_
  rintro e w3 ⟨rfl, hb3⟩
  have hB3 := hid (hB2.out.trans (hb3.mono (by omega)))
  replace hb3 := hid hb3
  go_wp2_with fail
  go_ret2
  exact ⟨x, rfl, hmi.out.1, hmi.out.2, hB3.out⟩
theorem read34_32_10 (M : Nat) (p : Int) (hM : M < 10 ^ 500) (hp : -20000000 ≤ p ∧ p ≤ 20000000) (v : Value) (w : World) (hv : Nt w v M) :
  Calls Tryz.prog 34 #[.agg #[.int .i64 23, .int .i64 8, .int .i64 (-149)], v, .int .i64 10, .int .i64 p] w (RdR (rdV 23 149 10 M p) 2139095040 w) := by
 obtain ⟨r, hr⟩ : ∃ r, r = rdV 23 149 10 M p := ⟨_, rfl⟩
 rw [← hr]
 have hB0 := hid ((Below.refl w.heap.size w).alloc (Nat.le_refl _) (.cells #[.int .i64 23, .int .i64 8, .int .i64 (-149)] 27))
 have hz0 : (w.alloc (.cells #[.int .i64 23, .int .i64 8, .int .i64 (-149)] 27)).heap.size = w.heap.size + 1 := by simp
 have l0 : (w.alloc (.cells #[.int .i64 23, .int .i64 8, .int .i64 (-149)] 27)).cell? ⟨w.heap.size, 0, none⟩ = some (.int .i64 23) := by simp
 have l1 : (w.alloc (.cells #[.int .i64 23, .int .i64 8, .int .i64 (-149)] 27)).cell? ⟨w.heap.size, 1, none⟩ = some (.int .i64 8) := by simp
 have l2 : (w.alloc (.cells #[.int .i64 23, .int .i64 8, .int .i64 (-149)] 27)).cell? ⟨w.heap.size, 2, none⟩ = some (.int .i64 (-149)) := by simp
 have hva := hid (value70_10 M p hM hp v _ (hv.alloc (.cells #[.int .i64 23, .int .i64 8, .int .i64 (-149)] 27)))
 obtain ⟨ao, n, c, rfl⟩ := hv.sh
 have hp1 := hp.1
 have hp2 := hp.2
 have hr' := hid hr
 clear hv hM hr
 obtain ⟨w0, hw0⟩ : ∃ w0, w0 = w.alloc (.cells #[.int .i64 23, .int .i64 8, .int .i64 (-149)] 27) := ⟨_, rfl⟩
 rw [← hw0] at hB0 hz0 l0 l1 l2 hva
 go_enter Tryz.func34, Tryz.ntmps34
 go_wp2_with fail
 rw [← hw0]
 have hw0' := hid hw0
 clear hw0
 refine hva.out.mono ?_
 rintro e w1 ⟨ao1, n1, c1, ao2, n2, c2, tag, rfl, hb1, hcase⟩
 have hB1 := hid (hB0.out.trans (hb1.mono (by omega)))
 have hz1 : w.heap.size + 1 ≤ w1.heap.size := by have := hb1.size; omega
 have hz1' : w.heap.size < w1.heap.size := by omega
 have m0 := (hb1.cell (p := ⟨w.heap.size, 0, none⟩) (show w.heap.size < w0.heap.size by omega)).trans l0
 have m1 := (hb1.cell (p := ⟨w.heap.size, 1, none⟩) (show w.heap.size < w0.heap.size by omega)).trans l1
 have m2 := (hb1.cell (p := ⟨w.heap.size, 2, none⟩) (show w.heap.size < w0.heap.size by omega)).trans l2
 have hB2 := hid (hB1.out.alloc (by omega) (.cells #[.slice ao1 n1 c1, .slice ao2 n2 c2] 108))
 replace hb1 := hid hb1
 clear l0 l1 l2
 rcases hcase with ⟨rfl, hc⟩ | ⟨rfl, hc⟩ | ⟨rfl, hc1, hc2, hc3, hc4⟩
 ·have hr0 : r = 0 := by
   rw [hr'.out]
   rcases hc with h | h
   ·rw [h]; exact rdV_zero 23 149 10 p (by decide)
   ·refine rdV_tiny (by decide) (Nat.lt_of_le_of_lt ?_ h)
    exact Nat.mul_le_mul_left _ (Nat.mul_le_mul_left _ (Nat.pow_le_pow_right (by decide) (by decide)))
  replace hc := hid hc
  subst hr0
  go_wp2_with fail
  go_ret2
  exact ⟨0, rfl, fun _ => rfl, by decide, hB2.out⟩
 ·have hr0 : 2139095040 ≤ r := by
   rw [hr'.out]
   refine rdV_huge (K := 128) (by decide) val_inf32 (Nat.le_trans ?_ hc)
   exact Nat.mul_le_mul_right _ (Nat.pow_le_pow_right (by decide) (by decide))
  have hr1 : decide (r < 2139095040) = false := decide_eq_false (by omega)
  have hfin := hid (show RdR r 2139095040 w (.returned (.tuple #[.int .u64 0, .bool false])) (w1.alloc (.cells #[.slice ao1 n1 c1, .slice ao2 n2 c2] 108)) from ⟨0, by rw [hr1]; rfl, fun h => by omega, by decide, hB2.out⟩)
  clear hc hr0 hr1
  go_wp2_with fail
  go_ret2
  exact hfin.out
 ·have hne := hid (nearest71_32 (M * 10 ^ p.toNat) (10 ^ (-p).toNat) hc3 hc4 (Nat.pow_pos (by decide)) (.slice ao1 n1 c1) (.slice ao2 n2 c2) _ (hc1.alloc (.cells #[.slice ao1 n1 c1, .slice ao2 n2 c2] 108)) (hc2.alloc _))
  have hrr : nr 23 (M * 10 ^ p.toNat * 2 ^ 149) (10 ^ (-p).toNat) = r := by rw [hr'.out]; rfl
  rw [hrr] at hne
  have hmi := hid (show (r < 2139095040 → min r 2139095040 = r) ∧ min r 2139095040 ≤ 2139095040 from ⟨fun h => by omega, by omega⟩)
  generalize min r 2139095040 = x at *
  replace hc1 := hid hc1
  replace hc2 := hid hc2
  replace hrr := hid hrr
  have hz2 : (w1.alloc (.cells #[.slice ao1 n1 c1, .slice ao2 n2 c2] 108)).heap.size = w1.heap.size + 1 := by simp
  clear hc3 hc4
  go_wp2_with fail
  refine hne.out.mono ?_
  rintro e w3 ⟨rfl, hb3⟩
  have hB3 := hid (hB2.out.trans (hb3.mono (by omega)))
  replace hb3 := hid hb3
  go_wp2_with fail
  go_ret2
  exact ⟨x, rfl, hmi.out.1, hmi.out.2, hB3.out⟩
end
end Go.Proofs.YtlgneiaenanfaaaGreatDoor
