/- Closed facts of FigureRead's row: the call graph (named). No condition. -/
import Derived.Test.YtlgneiaenanfaaaGreatDoorRows
import Derived.JoinedCond
import Derived.ProofKit
namespace Go.Proofs.YtlgneiaenanfaaaGreatDoor
set_option maxRecDepth 100000

theorem figureRead_named : (Rows.figureReadRow.named == Tryz.pinned.checked.prog.varsNamed 3) = true := by kernel_rfl

end Go.Proofs.YtlgneiaenanfaaaGreatDoor
