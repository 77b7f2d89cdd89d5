/- Closed facts of FigureReadHalf's row: the call graph (inPlace). No condition. -/
import Derived.Test.YtlgneiaenanfaaaGreatDoorRows
import Derived.JoinedCond
import Derived.ProofKit
namespace Go.Proofs.YtlgneiaenanfaaaGreatDoor
set_option maxRecDepth 100000

theorem figureReadHalf_inPlace : (Rows.figureReadHalfRow.inPlace == Tryz.pinned.checked.prog.inPlace 4) = true := by kernel_rfl

end Go.Proofs.YtlgneiaenanfaaaGreatDoor
