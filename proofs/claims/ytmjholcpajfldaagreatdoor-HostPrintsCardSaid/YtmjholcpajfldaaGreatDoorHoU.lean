/- The reading of a pinned table. No condition. -/
import Derived.Test.YtmjholcpajfldaaGreatDoorFrame
import Derived.Test.YtmjholcpajfldaaGreatDoorCards
import Derived.LaidMore
import Derived.Stop.Joined
import Derived.SevenTiedAt
namespace Go.Proofs.YtmjholcpajfldaaGreatDoor
open Go.RowKit
set_option linter.unusedVariables false
set_option linter.unusedSimpArgs false

set_option maxRecDepth 100000
def powCells : List Value := Go.Pinned.pow10Rows.flatMap fun x => [Value.int .u64 (x.1 : Int), Value.int .u64 (x.2 : Int)]
theorem trod_pow (w : World) : DataW.trod (fun _ => ()) Tryz.prog w 0 (fun _ => true) false 8 334 powCells = some (Go.Pinned.pow10Tab, []) := by kernel_rfl

end Go.Proofs.YtmjholcpajfldaaGreatDoor
