/- Closed facts of SenseMore's row: the call graph, second half. No condition. -/
import Derived.Test.YtlabadkfkbenoaaGreatDoorRows
import Derived.JoinedCond
import Derived.ProofKit
namespace Go.Proofs.YtlabadkfkbenoaaGreatDoor
set_option maxRecDepth 100000

theorem more_recurses : (Rows.senseMoreUptoRow.recurses == Tryz.pinned.checked.prog.recurses 5) = true := by kernel_rfl
theorem more_named : (Rows.senseMoreUptoRow.named == Tryz.pinned.checked.prog.varsNamed 5) = true := by kernel_rfl

end Go.Proofs.YtlabadkfkbenoaaGreatDoor
