/- Closed facts of FigureRead's row: the call graph (inPlace). No condition. -/
import Derived.Test.YtlgneiaenanfaaaGreatDoorRows
import Derived.JoinedCond
import Derived.ProofKit
namespace Go.Proofs.YtlgneiaenanfaaaGreatDoor
set_option maxRecDepth 100000

theorem figureRead_inPlace : (Rows.figureReadRow.inPlace == Tryz.pinned.checked.prog.inPlace 3) = true := by kernel_rfl

end Go.Proofs.YtlgneiaenanfaaaGreatDoor
