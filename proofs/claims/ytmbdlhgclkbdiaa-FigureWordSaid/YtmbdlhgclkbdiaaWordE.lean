/- Walks: FigureWord. -/
import Derived.Test.YtmbdlhgclkbdiaaWordD
namespace Go.Proofs.Ytmbdlhgclkbdiaa
open Go.RowKit
set_option linter.unusedVariables false
set_option linter.unusedSimpArgs false

set_option maxHeartbeats 1000000 in
theorem figure_word (w : World) (s : ByteArray) (hs : s.size ≤ maxLen) : Calls Try.prog 9 #[.string s] w fun e w' => e = .returned (.bool true) ∧ Below w.heap.size w w' := by
  have h1 := hid (word28 s w hs)
  have h2 := hid (ref29 s w hs)
  go_enter Try.func9, Try.ntmps9
  go_wp2_with fail
  refine h1.out.mono ?_
  rintro e w1 ⟨rfl, rfl⟩
  go_wp2_with fail
  refine h2.out.mono ?_
  rintro e w1 ⟨rfl, rfl⟩
  clear h1 h2
  generalize wordV s = r
  obtain ⟨v, p, q⟩ := r
  simp only []
  go_wp2_with fail
  go_ret
  exact ⟨rfl, Below.refl _ _⟩
end Go.Proofs.Ytmbdlhgclkbdiaa
