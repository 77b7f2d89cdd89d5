/- Walks: texts that are kept apart: markTexts, SameTexts, ApartTexts. -/
import Derived.Test.YtmbdlhgclkbdiaaProg
import Derived.Test.YtmbdlhgclkbdiaaKitH
import Derived.Laws.BytesArg
namespace Go.Proofs.Ytmbdlhgclkbdiaa
open Go.RowKit
set_option linter.unusedVariables false
set_option linter.unusedSimpArgs false

def markT (a b : Nat) : ByteArray := strOfNums [35, (a : Int) % 256, (a : Int) / 256 % 256, (b : Int) % 256, (b : Int) / 256 % 256]

set_option maxRecDepth 10000 in
set_option maxHeartbeats 1000000 in
theorem mark_any (a b : Nat) (w : World) (ha : a ≤ 1048576) (hb : b ≤ 1048576) :
    Calls Try.prog 31 #[.int .i64 a, .int .i64 b] w fun e w' => e = .returned (.string (markT a b)) ∧ Below w.heap.size w w' ∧ w.grownBy w' none := by
  have kc := run_convert_bytes_arg (P := Try.prog) (w.alloc (.cells #[.int .u8 35, .int .u8 ((a : Int) % 256), .int .u8 ((a : Int) / 256 % 256), .int .u8 ((b : Int) % 256), .int .u8 ((b : Int) / 256 % 256)] 5)) 93 5 Try.underlying93 Try.underlying5 w.heap.size 0 5 5
    [35, (a : Int) % 256, (a : Int) / 256 % 256, (b : Int) % 256, (b : Int) / 256 % 256] rfl (fun i hi => by
      match i, hi with
      | 0, _ => simp
      | 1, _ => simp
      | 2, _ => simp
      | 3, _ => simp
      | 4, _ => simp) 9 Try.underlying9
  go_enter Try.func31, Try.ntmps31
  go_wp2_with fail
  go_ret
  exact ⟨rfl, (Below.refl _ _).alloc (Nat.le_refl _) _, World.grownBy_alloc _ _ _⟩

end Go.Proofs.Ytmbdlhgclkbdiaa
