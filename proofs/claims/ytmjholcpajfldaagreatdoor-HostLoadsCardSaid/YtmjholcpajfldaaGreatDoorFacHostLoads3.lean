/- Closed facts of HostLoads's row: the call graph (named). No condition. -/
import Derived.Test.YtmjholcpajfldaaGreatDoorRows
import Derived.JoinedCond
import Derived.ProofKit
namespace Go.Proofs.YtmjholcpajfldaaGreatDoor
set_option maxRecDepth 100000

theorem hostLoads_named : (Rows.hostLoadsRow.named == Tryz.pinned.checked.prog.varsNamed 6) = true := by kernel_rfl

end Go.Proofs.YtmjholcpajfldaaGreatDoor
