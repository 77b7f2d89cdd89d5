/- Closed facts of FigureRead's row: the call graph (recurses). No condition. -/
import Derived.Test.YtlgneiaenanfaaaGreatDoorRows
import Derived.JoinedCond
import Derived.ProofKit
namespace Go.Proofs.YtlgneiaenanfaaaGreatDoor
set_option maxRecDepth 100000

theorem figureRead_recurses : (Rows.figureReadRow.recurses == Tryz.pinned.checked.prog.recurses 3) = true := by kernel_rfl

end Go.Proofs.YtlgneiaenanfaaaGreatDoor
