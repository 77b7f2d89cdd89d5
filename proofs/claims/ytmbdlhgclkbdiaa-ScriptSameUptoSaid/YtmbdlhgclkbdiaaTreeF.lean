/- ScriptSame: structs compared. No condition. -/
import Derived.Test.YtmbdlhgclkbdiaaTreeE
import Derived.Laws.StructEq
namespace Go.Proofs.Ytmbdlhgclkbdiaa
open Go.RowKit
set_option linter.unusedVariables false
set_option linter.unusedSimpArgs false

theorem st83 : Try.prog.underlying 83 = some (.struct (Try.prog.fieldsOf 83)) := by kernel_rfl
theorem sh83 : Try.prog.stoodInHeld 83 = false := by kernel_rfl
theorem gd83 : Try.prog.eqGuardType Try.prog.depth 83 = false := by kernel_rfl
theorem st73 : Try.prog.underlying 73 = some (.struct (Try.prog.fieldsOf 73)) := by kernel_rfl
theorem sh73 : Try.prog.stoodInHeld 73 = false := by kernel_rfl
theorem gd73 : Try.prog.eqGuardType Try.prog.depth 73 = false := by kernel_rfl
theorem run_neq83 (w : World) (a b : ByteArray) (x y : Int) : (binOp .neq 83 (.agg #[.string a, .int .u8 x]) (.agg #[.string b, .int .u8 y])).run Try.prog w = .ok (.bool (!(a.toList == b.toList && x == y))) w := by
  rw [run_neq_struct, run_equalIn_agg w _ 83 _ _ st83 sh83]
  simp [go_sem, Program.fieldsOf]
  repeat (split <;> simp_all)
theorem run_neq73 (w : World) (a b : ByteArray) (p x1 x2 x3 q y1 y2 y3 : Int) : (binOp .neq 73 (.agg #[.int .i64 p, .string a, .int .u8 x1, .int .u32 x2, .int .u32 x3]) (.agg #[.int .i64 q, .string b, .int .u8 y1, .int .u32 y2, .int .u32 y3])).run Try.prog w = .ok (.bool (!(p == q && (a.toList == b.toList && x1 == y1 && x2 == y2 && x3 == y3)))) w := by
  rw [run_neq_struct, run_equalIn_agg w _ 73 _ _ st73 sh73]
  simp [go_sem, Program.fieldsOf]
  repeat (split <;> simp_all)
theorem run_eql73 (w : World) (a b : ByteArray) (p x1 x2 x3 q y1 y2 y3 : Int) : (binOp .eql 73 (.agg #[.int .i64 p, .string a, .int .u8 x1, .int .u32 x2, .int .u32 x3]) (.agg #[.int .i64 q, .string b, .int .u8 y1, .int .u32 y2, .int .u32 y3])).run Try.prog w = .ok (.bool (p == q && (a.toList == b.toList && x1 == y1 && x2 == y2 && x3 == y3))) w := by
  rw [run_eql_struct, run_equalIn_agg w _ 73 _ _ st73 sh73]
  simp [go_sem, Program.fieldsOf]
  repeat (split <;> simp_all)
end Go.Proofs.Ytmbdlhgclkbdiaa
