/- ScriptSame: structs compared. No condition. -/
import Derived.Test.YtecpkadjnecbiaaGreatDoorTreeE
import Derived.Laws.StructEq
namespace Go.Proofs.YtecpkadjnecbiaaGreatDoor
open Go.RowKit
set_option linter.unusedVariables false
set_option linter.unusedSimpArgs false

theorem st83 : Tryz.prog.underlying 56 = some (.struct (Tryz.prog.fieldsOf 56)) := by kernel_rfl
theorem sh83 : Tryz.prog.stoodInHeld 56 = false := by kernel_rfl
theorem gd83 : Tryz.prog.eqGuardType Tryz.prog.depth 56 = false := by kernel_rfl
theorem st73 : Tryz.prog.underlying 43 = some (.struct (Tryz.prog.fieldsOf 43)) := by kernel_rfl
theorem sh73 : Tryz.prog.stoodInHeld 43 = false := by kernel_rfl
theorem gd73 : Tryz.prog.eqGuardType Tryz.prog.depth 43 = false := by kernel_rfl
theorem run_neq83 (w : World) (a b : ByteArray) (x y : Int) : (binOp .neq 56 (.agg #[.string a, .int .u8 x]) (.agg #[.string b, .int .u8 y])).run Tryz.prog w = .ok (.bool (!(a.toList == b.toList && x == y))) w := by
  rw [run_neq_struct, run_equalIn_agg w _ 56 _ _ st83 sh83]
  simp [go_sem, Program.fieldsOf]
  repeat (split <;> simp_all)
theorem run_neq73 (w : World) (a b : ByteArray) (p x1 x2 x3 q y1 y2 y3 : Int) : (binOp .neq 43 (.agg #[.int .i64 p, .string a, .int .u8 x1, .int .u32 x2, .int .u32 x3]) (.agg #[.int .i64 q, .string b, .int .u8 y1, .int .u32 y2, .int .u32 y3])).run Tryz.prog w = .ok (.bool (!(p == q && (a.toList == b.toList && x1 == y1 && x2 == y2 && x3 == y3)))) w := by
  rw [run_neq_struct, run_equalIn_agg w _ 43 _ _ st73 sh73]
  simp [go_sem, Program.fieldsOf]
  repeat (split <;> simp_all)
theorem run_eql73 (w : World) (a b : ByteArray) (p x1 x2 x3 q y1 y2 y3 : Int) : (binOp .eql 43 (.agg #[.int .i64 p, .string a, .int .u8 x1, .int .u32 x2, .int .u32 x3]) (.agg #[.int .i64 q, .string b, .int .u8 y1, .int .u32 y2, .int .u32 y3])).run Tryz.prog w = .ok (.bool (p == q && (a.toList == b.toList && x1 == y1 && x2 == y2 && x3 == y3))) w := by
  rw [run_eql_struct, run_equalIn_agg w _ 43 _ _ st73 sh73]
  simp [go_sem, Program.fieldsOf]
  repeat (split <;> simp_all)
end Go.Proofs.YtecpkadjnecbiaaGreatDoor
