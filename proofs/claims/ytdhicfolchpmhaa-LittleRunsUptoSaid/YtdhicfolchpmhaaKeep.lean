/- Walks: keep of LittleNumbers. -/
import Derived.Test.YtdhicfolchpmhaaApartB
import Derived.Test.YtdhicfolchpmhaaWalkC
namespace Go.Proofs.Ytdhicfolchpmhaa
open Go.RowKit
set_option linter.unusedVariables false
set_option linter.unusedSimpArgs false

set_option maxHeartbeats 1000000 in
theorem keep38 (w : World) (B lb lo cap mb mo cap2 : Nat) (L0 : List RowS) (X : List (List Int)) (hA : Ap w B lb lo L0 L0) (hB : B ≤ w.heap.size) (hlb : lb < w.heap.size) (hLn : L0.length ≤ 100000000) (hn : ∀ i (h : i < L0.length), L0[i].n ≤ 100000000)
    (he : ∀ i (h : i < L0.length), L0[i].e = 5 ∧ L0[i].size = 1) (hx : ∀ i (h : i < L0.length), L0[i].xs = (X.getD i []).map (Value.int .u8))
    (hM : ∀ i, i < L0.length → ∃ ao c, w.cell? ⟨mb, mo + i, none⟩ = some (.slice ao (X.getD i []).length c) ∧ Ints .u8 w ao (X.getD i [])) :
    Calls Try.prog 38 #[.slice (some ⟨lb, lo, none⟩) L0.length cap, .slice (some ⟨mb, mo, none⟩) L0.length cap2] w fun e w' => e = .returned (.bool true) ∧ Below B w w' := by
  have hA' := hid hA
  have hn' := hid hn
  have he' := hid he
  have hx' := hid hx
  have hM' := hid hM
  clear hA hn he hx hM
  have hap : Hid (∀ q, Calls Try.prog 80 #[.slice (some ⟨lb, lo, none⟩) L0.length cap] (w.drewN q) fun e w' => e = .returned (.bool true) ∧ Below B (w.drewN q) w') := fun q =>
    apart_bytes (w.drewN q) B lb lo cap L0 ⟨hA'.out.sep.drewN q, hA'.out.shape, hA'.out.cells, hA'.out.far⟩ hB hlb hLn hn'.out he'.out
  go_enter Try.func38, Try.ntmps38
  go_wp2
  go_loopw [5] (fun i wr => ∃ k q : Nat, k ≤ L0.length ∧ i = .int .i64 k ∧ wr = w.drewN q) (fun i _ => L0.length - (intOf i).toNat)
  case atStart => exact ⟨0, 0, Nat.zero_le _, rfl, rfl⟩
  case round =>
    obtain ⟨k, q, hk, rfl, hw⟩ := hrel
    have hW := hid hw
    by_cases hlt : k < L0.length
    · obtain ⟨mo1, mc, hmc, hmI⟩ := hM'.out k hlt
      have hown := hA'.out.sep.own k hlt
      rw [(he'.out k hlt).1, (he'.out k hlt).2, hx'.out k hlt] at hown
      obtain ⟨ao, c, hv, hI, hnl, hlc, hcm⟩ := ints_of_own hown hmI.wf
      have hcell1 : wr.cell? ⟨lb, lo + k, none⟩ = some (.slice ao (X.getD k []).length c) := by rw [hw]; exact (hA'.out.cells k hlt).trans (congrArg some hv)
      have hcell2 : wr.cell? ⟨mb, mo + k, none⟩ = some (.slice mo1 (X.getD k []).length mc) := by rw [hw]; exact hmc
      have hI1 : Hid (Ints .u8 wr ao (X.getD k [])) := by unfold Hid; rw [hw]; exact hI.drewN q
      have hI2 : Hid (Ints .u8 wr mo1 (X.getD k [])) := by unfold Hid; rw [hw]; exact hmI.drewN q
      have hxl : (X.getD k []).length ≤ 100000000 := by have := hn'.out k hlt; omega
      clear hown hv hI hmI hmc hnl hw
      generalize X.getD k [] = l at *
      have hdec : decide (l = l) = true := decide_eq_true rfl
      have hs := hid (fun n => by have := same_any ao l.length c l mo1 l.length mc l (wr.drewN n) rfl rfl (by omega) (hI1.out.drewN n) (hI2.out.drewN n); rw [hdec] at this; exact this)
      clear hdec
      go_wp2_with fail
      go_quiet ((go_at_call 27; exact Calls.quiet_of (hs.out _)))
      go_wp2_with fail
      go_roundw
      case rel => exact ⟨k + 1, q + nq, by omega, by go_num, by rw [hW.out]; simp⟩
      case measure => simp [intOf]; omega
    · subst hw
      go_wp2_with fail
      refine (hap.out q).mono ?_
      rintro e w1 ⟨rfl, hb⟩
      have hb' : Below B w w1 := (below_drewN' (Below.refl _ _) q).trans hb
      go_wp2_with fail
      go_ret
      exact ⟨rfl, hb'⟩
end Go.Proofs.Ytdhicfolchpmhaa
