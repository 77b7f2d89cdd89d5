/- Closed facts of SenseMore's row: the call graph, first half. No condition. -/
import Derived.Test.YtlabadkfkbenoaaGreatDoorRows
import Derived.JoinedCond
import Derived.ProofKit
namespace Go.Proofs.YtlabadkfkbenoaaGreatDoor
set_option maxRecDepth 100000

theorem more_inPlace : (Rows.senseMoreUptoRow.inPlace == Tryz.pinned.checked.prog.inPlace 5) = true := by kernel_rfl
theorem more_unfollowed : (Rows.senseMoreUptoRow.unfollowed == Tryz.pinned.checked.prog.unfollowed 5) = true := by kernel_rfl

end Go.Proofs.YtlabadkfkbenoaaGreatDoor
