/- Closed facts of HostNone's row: the call graph (named). No condition. -/
import Derived.Test.YtmjholcpajfldaaGreatDoorRows
import Derived.JoinedCond
import Derived.ProofKit
namespace Go.Proofs.YtmjholcpajfldaaGreatDoor
set_option maxRecDepth 100000

theorem hostNone_named : (Rows.hostNoneRow.named == Tryz.pinned.checked.prog.varsNamed 5) = true := by kernel_rfl

end Go.Proofs.YtmjholcpajfldaaGreatDoor
