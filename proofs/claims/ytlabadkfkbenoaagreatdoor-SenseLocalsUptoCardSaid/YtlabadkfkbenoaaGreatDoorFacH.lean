/- Closed facts of SenseLocals' row: the call graph, second half. No condition. -/
import Derived.Test.YtlabadkfkbenoaaGreatDoorRows
import Derived.JoinedCond
import Derived.ProofKit
namespace Go.Proofs.YtlabadkfkbenoaaGreatDoor
set_option maxRecDepth 100000

theorem qp:(Rows.senseLocalsUptoRow.recurses==Tryz.pinned.checked.prog.recurses 3)=true:=by kernel_rfl
theorem uT:(Rows.senseLocalsUptoRow.named==Tryz.pinned.checked.prog.varsNamed 3)=true:=by kernel_rfl

end Go.Proofs.YtlabadkfkbenoaaGreatDoor

