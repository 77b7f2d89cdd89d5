/- Closed facts of HostKeeps's row: the call graph (recurses). No condition. -/
import Derived.Test.YtmjholcpajfldaaGreatDoorRows
import Derived.JoinedCond
import Derived.ProofKit
namespace Go.Proofs.YtmjholcpajfldaaGreatDoor
set_option maxRecDepth 100000

theorem hostKeeps_recurses : (Rows.hostKeepsRow.recurses == Tryz.pinned.checked.prog.recurses 3) = true := by kernel_rfl

end Go.Proofs.YtmjholcpajfldaaGreatDoor
