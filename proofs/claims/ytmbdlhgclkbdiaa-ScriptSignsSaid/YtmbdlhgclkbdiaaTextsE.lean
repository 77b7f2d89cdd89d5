/- Walks: ScriptSigns. -/
import Derived.Test.YtmbdlhgclkbdiaaTextsD
namespace Go.Proofs.Ytmbdlhgclkbdiaa
open Go.RowKit
set_option linter.unusedVariables false
set_option linter.unusedSimpArgs false

theorem signs_cells {w : World} {B g : Nat} (h : w.ownsRow B 9 1 (.slice (some ⟨g, 0, none⟩) 39 39) 39 (signsL.map Value.string)) : ∀ i, i < signsL.length → w.cell? ⟨g, i, none⟩ = some (.string (signsL.getD i ⟨#[]⟩)) := by
  intro i hi
  rw [h.cellAt i (by simpa [signsL] using hi)]
  simp [List.getD, List.getElem?_eq_getElem hi]

set_option maxHeartbeats 2000000 in
theorem script_signs (w : World) : Calls Try.prog 6 #[] w fun e w' => e = .returned (.bool true) ∧ Below w.heap.size w w' := by
  go_enter Try.func6, Try.ntmps6
  go_wp2_with fail
  refine (signs_10 w).mono ?_
  rintro e w1 ⟨g1, rfl, ho1, hg1, hb1⟩
  have hO1 := hid ho1
  have hB1 := hid hb1
  clear ho1 hg1 hb1
  go_wp2_with fail
  refine (signs_11 w1).mono ?_
  rintro e w2 ⟨g2, rfl, ho2, hg2, hb2⟩
  have hO2 := hid ho2
  have hO12 := hid (own_mono hO1.out hb2 (Nat.le_refl _))
  have hB2 := hid hb2
  clear ho2 hg2 hb2
  go_wp2_with fail
  refine (signs_11 w2).mono ?_
  rintro e w3 ⟨g3, rfl, ho3, hg3, hb3⟩
  have hO3 := hid ho3
  have hO13 := hid (own_mono hO12.out hb3 (Nat.le_refl _))
  have hO23 := hid (own_mono hO2.out hb3 (Nat.le_refl _))
  have hB3 := hid hb3
  clear ho3 hg3 hb3
  go_wp2_with fail
  have hs1 := hB1.out.size
  have hs2 := hB2.out.size
  have hs3 := hB3.out.size
  refine (same_texts g2 g1 39 39 39 39 signsL w3 rfl rfl (by decide) (signs_cells hO23.out) (signs_cells hO13.out)).mono ?_
  rintro e w' ⟨rfl, q1, rfl⟩
  go_wp2_with fail
  refine (same_texts g3 g1 39 39 39 39 signsL (w3.drewN q1) rfl rfl (by decide) (signs_cells (own_drewN hO3.out q1)) (signs_cells (own_drewN hO13.out q1))).mono ?_
  rintro e w' ⟨rfl, q2, rfl⟩
  obtain ⟨w4, hw4⟩ : ∃ w4, w4 = (w3.drewN q1).drewN q2 := ⟨_, rfl⟩
  have hB4 : Hid (Below w1.heap.size w1 w4) := by
    have h : Below w1.heap.size w1 ((w3.drewN q1).drewN q2) := below_drewN' (below_drewN' (hB2.out.trans (hB3.out.mono hs2)) q1) q2
    rw [← hw4] at h
    exact h
  have hP2 : Hid (w4.ownsRow w1.heap.size 9 1 (.slice (some ⟨g2, 0, none⟩) 39 39) 39 (signsL.map Value.string)) := by
    have h : ((w3.drewN q1).drewN q2).ownsRow w1.heap.size 9 1 (.slice (some ⟨g2, 0, none⟩) 39 39) 39 (signsL.map Value.string) := own_drewN (own_drewN hO23.out q1) q2
    rw [← hw4] at h
    exact h
  have hP3 : Hid (w4.ownsRow w1.heap.size 9 1 (.slice (some ⟨g3, 0, none⟩) 39 39) 39 (signsL.map Value.string)) := by
    have h : ((w3.drewN q1).drewN q2).ownsRow w1.heap.size 9 1 (.slice (some ⟨g3, 0, none⟩) 39 39) 39 (signsL.map Value.string) := own_drewN (own_drewN (own_base hO3.out hs2) q1) q2
    rw [← hw4] at h
    exact h
  have hne := own_apart hO2.out hO3.out (Nat.le_refl _)
  have hne' := hid hne
  rw [← hw4]
  clear hw4 hne
  go_wp2_with fail
  refine (apart_any _ w1.heap.size w4.heap.size 0 2 _ (ap_two hP2.out hP3.out hne'.out) (by have := hB4.out.size; simp; omega) (by simp) (by simp) ?_ ?_).mono ?_
  · intro i hi
    match i, hi with
    | 0, _ => exact (by decide : 39 ≤ 1000000)
    | 1, _ => exact (by decide : 39 ≤ 1000000)
  · intro i hi
    match i, hi with
    | 0, _ => exact ⟨rfl, rfl⟩
    | 1, _ => exact ⟨rfl, rfl⟩
  rintro e w5 ⟨rfl, hb5⟩
  have hB5 : Hid (Below w1.heap.size w1 w5) := hid ((hB4.out.alloc hB4.out.size _).trans hb5)
  clear hb5
  go_wp2_with fail
  refine (signs_11 w5).mono ?_
  rintro e w6 ⟨g6, rfl, ho6, hg6, hb6⟩
  have hs5 := hB5.out.size
  have hO6 := hid ho6
  have hB6 : Hid (Below w1.heap.size w1 w6) := hid (hB5.out.trans (hb6.mono hs5))
  have hO16 := hid (own_mono hO1.out hB6.out (Nat.le_refl _))
  clear ho6 hg6 hb6
  go_wp2_with fail
  refine (same_texts g6 g1 39 39 39 39 signsL w6 rfl rfl (by decide) (signs_cells hO6.out) (signs_cells hO16.out)).mono ?_
  rintro e w' ⟨rfl, q6, rfl⟩
  go_wp2_with fail
  go_ret
  exact ⟨rfl, below_drewN' (hB1.out.trans (hB6.out.mono hs1)) q6⟩
end Go.Proofs.Ytmbdlhgclkbdiaa
