/- Closed facts of SenseCalm's row: the call graph, second half. No condition. -/
import Derived.Test.YtlabadkfkbenoaaGreatDoorRows
import Derived.JoinedCond
import Derived.ProofKit
namespace Go.Proofs.YtlabadkfkbenoaaGreatDoor
set_option maxRecDepth 100000

theorem calm_recurses : (Rows.senseCalmUptoRow.recurses == Tryz.pinned.checked.prog.recurses 4) = true := by kernel_rfl
theorem calm_named : (Rows.senseCalmUptoRow.named == Tryz.pinned.checked.prog.varsNamed 4) = true := by kernel_rfl

end Go.Proofs.YtlabadkfkbenoaaGreatDoor
