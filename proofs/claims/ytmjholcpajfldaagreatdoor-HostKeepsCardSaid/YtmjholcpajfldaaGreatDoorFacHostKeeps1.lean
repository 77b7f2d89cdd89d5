/- Closed facts of HostKeeps's row: the call graph (unfollowed). No condition. -/
import Derived.Test.YtmjholcpajfldaaGreatDoorRows
import Derived.JoinedCond
import Derived.ProofKit
namespace Go.Proofs.YtmjholcpajfldaaGreatDoor
set_option maxRecDepth 100000

theorem hostKeeps_unfollowed : (Rows.hostKeepsRow.unfollowed == Tryz.pinned.checked.prog.unfollowed 3) = true := by kernel_rfl

end Go.Proofs.YtmjholcpajfldaaGreatDoor
