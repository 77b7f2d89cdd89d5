/- Closed facts of HostLoads's row: the call graph (unfollowed). No condition. -/
import Derived.Test.YtmjholcpajfldaaGreatDoorRows
import Derived.JoinedCond
import Derived.ProofKit
namespace Go.Proofs.YtmjholcpajfldaaGreatDoor
set_option maxRecDepth 100000

theorem hostLoads_unfollowed : (Rows.hostLoadsRow.unfollowed == Tryz.pinned.checked.prog.unfollowed 6) = true := by kernel_rfl

end Go.Proofs.YtmjholcpajfldaaGreatDoor
