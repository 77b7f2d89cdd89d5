/- Closed facts of FigureReadHalf's row: the call graph (unfollowed). No condition. -/
import Derived.Test.YtlgneiaenanfaaaGreatDoorRows
import Derived.JoinedCond
import Derived.ProofKit
namespace Go.Proofs.YtlgneiaenanfaaaGreatDoor
set_option maxRecDepth 100000

theorem figureReadHalf_unfollowed : (Rows.figureReadHalfRow.unfollowed == Tryz.pinned.checked.prog.unfollowed 4) = true := by kernel_rfl

end Go.Proofs.YtlgneiaenanfaaaGreatDoor
