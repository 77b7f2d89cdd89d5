/- Closed facts of HostPrints's row: the call graph (recurses). No condition. -/
import Derived.Test.YtmjholcpajfldaaGreatDoorRows
import Derived.JoinedCond
import Derived.ProofKit
namespace Go.Proofs.YtmjholcpajfldaaGreatDoor
set_option maxRecDepth 100000

theorem hostPrints_recurses : (Rows.hostPrintsRow.recurses == Tryz.pinned.checked.prog.recurses 4) = true := by kernel_rfl

end Go.Proofs.YtmjholcpajfldaaGreatDoor
