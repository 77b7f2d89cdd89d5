/- Closed facts of HostPrints's row: the call graph (unfollowed). No condition. -/
import Derived.Test.YtmjholcpajfldaaGreatDoorRows
import Derived.JoinedCond
import Derived.ProofKit
namespace Go.Proofs.YtmjholcpajfldaaGreatDoor
set_option maxRecDepth 100000

theorem hostPrints_unfollowed : (Rows.hostPrintsRow.unfollowed == Tryz.pinned.checked.prog.unfollowed 4) = true := by kernel_rfl

end Go.Proofs.YtmjholcpajfldaaGreatDoor
