/- Walks: the same expressions, of the program. -/
import Derived.Test.YtecpkadjnecbiaaGreatDoorTreeA
namespace Go.Proofs.YtecpkadjnecbiaaGreatDoor
open Go.RowKit
set_option linter.unusedVariables false
set_option linter.unusedSimpArgs false

set_option maxHeartbeats 1000000 in
set_option maxRecDepth 100000 in
theorem SlE.shape {w : World} {p : Bool} {o : Option (Nat → Prop)} {l : Exs} {v : Value} (h : SlE w p o l v) : ∃ a n c, v = .slice a n c := by
  obtain ⟨ka, kb, koff, kcap, rfl, -⟩ := h
  exact ⟨_, _, _, rfl⟩
end Go.Proofs.YtecpkadjnecbiaaGreatDoor
