/- Closed facts of HostPrints's row: the call graph (named). No condition. -/
import Derived.Test.YtmjholcpajfldaaGreatDoorRows
import Derived.JoinedCond
import Derived.ProofKit
namespace Go.Proofs.YtmjholcpajfldaaGreatDoor
set_option maxRecDepth 100000

theorem hostPrints_named : (Rows.hostPrintsRow.named == Tryz.pinned.checked.prog.varsNamed 4) = true := by kernel_rfl

end Go.Proofs.YtmjholcpajfldaaGreatDoor
