/- Closed facts of FigureRead's row: the call graph (unfollowed). No condition. -/
import Derived.Test.YtlgneiaenanfaaaGreatDoorRows
import Derived.JoinedCond
import Derived.ProofKit
namespace Go.Proofs.YtlgneiaenanfaaaGreatDoor
set_option maxRecDepth 100000

theorem figureRead_unfollowed : (Rows.figureReadRow.unfollowed == Tryz.pinned.checked.prog.unfollowed 3) = true := by kernel_rfl

end Go.Proofs.YtlgneiaenanfaaaGreatDoor
