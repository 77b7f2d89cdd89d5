/- Closed facts of SenseCalm's row: the call graph, first half. No condition. -/
import Derived.Test.YtlabadkfkbenoaaGreatDoorRows
import Derived.JoinedCond
import Derived.ProofKit
namespace Go.Proofs.YtlabadkfkbenoaaGreatDoor
set_option maxRecDepth 100000

theorem calm_inPlace : (Rows.senseCalmUptoRow.inPlace == Tryz.pinned.checked.prog.inPlace 4) = true := by kernel_rfl
theorem calm_unfollowed : (Rows.senseCalmUptoRow.unfollowed == Tryz.pinned.checked.prog.unfollowed 4) = true := by kernel_rfl

end Go.Proofs.YtlabadkfkbenoaaGreatDoor
