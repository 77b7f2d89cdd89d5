/- Closed facts of HostLoads's row: the call graph (inPlace). No condition. -/
import Derived.Test.YtmjholcpajfldaaGreatDoorRows
import Derived.JoinedCond
import Derived.ProofKit
namespace Go.Proofs.YtmjholcpajfldaaGreatDoor
set_option maxRecDepth 100000

theorem hostLoads_inPlace : (Rows.hostLoadsRow.inPlace == Tryz.pinned.checked.prog.inPlace 6) = true := by kernel_rfl

end Go.Proofs.YtmjholcpajfldaaGreatDoor
