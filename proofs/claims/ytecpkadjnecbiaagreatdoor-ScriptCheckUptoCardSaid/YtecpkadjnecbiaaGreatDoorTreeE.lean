/- Walks: the same statements, of the program. -/
import Derived.Test.YtecpkadjnecbiaaGreatDoorTreeD
namespace Go.Proofs.YtecpkadjnecbiaaGreatDoor
open Go.RowKit
set_option linter.unusedVariables false
set_option linter.unusedSimpArgs false

abbrev aggS (t : Int) (h : SH) (v5 v6 v7 : Value) : Value := .agg #[.int .i64 t, .int .u8 h.kind, .string h.name, .int .u8 h.type, .string h.sign, v5, v6, v7]
end Go.Proofs.YtecpkadjnecbiaaGreatDoor
