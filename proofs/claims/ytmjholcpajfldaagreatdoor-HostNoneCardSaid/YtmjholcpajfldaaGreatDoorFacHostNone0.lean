/- Closed facts of HostNone's row: the call graph (inPlace). No condition. -/
import Derived.Test.YtmjholcpajfldaaGreatDoorRows
import Derived.JoinedCond
import Derived.ProofKit
namespace Go.Proofs.YtmjholcpajfldaaGreatDoor
set_option maxRecDepth 100000

theorem hostNone_inPlace : (Rows.hostNoneRow.inPlace == Tryz.pinned.checked.prog.inPlace 5) = true := by kernel_rfl

end Go.Proofs.YtmjholcpajfldaaGreatDoor
