/- Closed facts of FigureReadHalf's row: the call graph (recurses). No condition. -/
import Derived.Test.YtlgneiaenanfaaaGreatDoorRows
import Derived.JoinedCond
import Derived.ProofKit
namespace Go.Proofs.YtlgneiaenanfaaaGreatDoor
set_option maxRecDepth 100000

theorem figureReadHalf_recurses : (Rows.figureReadHalfRow.recurses == Tryz.pinned.checked.prog.recurses 4) = true := by kernel_rfl

end Go.Proofs.YtlgneiaenanfaaaGreatDoor
