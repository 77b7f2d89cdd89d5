/- Closed facts of HostLoads's row: the call graph (recurses). No condition. -/
import Derived.Test.YtmjholcpajfldaaGreatDoorRows
import Derived.JoinedCond
import Derived.ProofKit
namespace Go.Proofs.YtmjholcpajfldaaGreatDoor
set_option maxRecDepth 100000

theorem hostLoads_recurses : (Rows.hostLoadsRow.recurses == Tryz.pinned.checked.prog.recurses 6) = true := by kernel_rfl

end Go.Proofs.YtmjholcpajfldaaGreatDoor
