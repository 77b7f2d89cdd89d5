/- Closed facts of HostPrints's row: the call graph (inPlace). No condition. -/
import Derived.Test.YtmjholcpajfldaaGreatDoorRows
import Derived.JoinedCond
import Derived.ProofKit
namespace Go.Proofs.YtmjholcpajfldaaGreatDoor
set_option maxRecDepth 100000

theorem hostPrints_inPlace : (Rows.hostPrintsRow.inPlace == Tryz.pinned.checked.prog.inPlace 4) = true := by kernel_rfl

end Go.Proofs.YtmjholcpajfldaaGreatDoor
