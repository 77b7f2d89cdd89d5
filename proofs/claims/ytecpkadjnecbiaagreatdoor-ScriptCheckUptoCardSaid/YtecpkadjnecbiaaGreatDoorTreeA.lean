/- Walks: the same expressions, of the document. -/
import Derived.Test.YtecpkadjnecbiaaGreatDoorTreeP
import Derived.Deep.RegionLaw
import Derived.RegionCalls
import Derived.Test.YtecpkadjnecbiaaGreatDoorKitH
import Derived.Test.YtecpkadjnecbiaaGreatDoorProg
namespace Go.Proofs.YtecpkadjnecbiaaGreatDoor
open Go.RowKit
set_option linter.unusedVariables false
set_option linter.unusedSimpArgs false

abbrev aggE (t : Int) (h : EH) (v : Value) : Value := .agg #[.int .i64 t, .int .u8 h.kind, .int .u32 h.word, .int .u8 h.type, .string h.name, .string h.sign, v]
theorem below2 (w : World) (o o' : Obj) : Below w.heap.size w ((w.alloc o).alloc o') := ((Below.refl _ _).alloc (Nat.le_refl _) o).alloc (by simp) o'
theorem below2' (w w' : World) (o o' : Obj) (h : Below ((w.alloc o).alloc o').heap.size ((w.alloc o).alloc o') w') : Below w.heap.size w w' := (below2 w o o').trans (h.mono (below2 w o o').size)

theorem of_drew {w w' : World} (h : Below w.drew.heap.size w.drew w') : Below w.heap.size w w' := (Below.refl _ _).drew.trans h

end Go.Proofs.YtecpkadjnecbiaaGreatDoor
