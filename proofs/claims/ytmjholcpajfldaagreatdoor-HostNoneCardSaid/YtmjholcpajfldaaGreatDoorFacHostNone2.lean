/- Closed facts of HostNone's row: the call graph (recurses). No condition. -/
import Derived.Test.YtmjholcpajfldaaGreatDoorRows
import Derived.JoinedCond
import Derived.ProofKit
namespace Go.Proofs.YtmjholcpajfldaaGreatDoor
set_option maxRecDepth 100000

theorem hostNone_recurses : (Rows.hostNoneRow.recurses == Tryz.pinned.checked.prog.recurses 5) = true := by kernel_rfl

end Go.Proofs.YtmjholcpajfldaaGreatDoor
