/- Walks: the law HostNone. No condition. -/
import Derived.Test.YtmjholcpajfldaaGreatDoorHostJ
namespace Go.Proofs.YtmjholcpajfldaaGreatDoor
open Go.RowKit
set_option linter.unusedVariables false
set_option linter.unusedSimpArgs false

set_option maxRecDepth 100000

set_option maxHeartbeats 2000000 in
theorem none5 (s : ByteArray) (x : Int) (w : World) (htab : ∀ w', Below w.heap.size w w' → TB w') : Calls Tryz.prog 5 #[.string s, .int .u32 x] w fun e w' => e = .returned (.bool true) ∧ Below w.heap.size w w' := by
  have hl := hid (lives8 w htab)
  clear htab
  go_enter Tryz.func5, Tryz.ntmps5
  go_wp2_with fail
  refine hl.out.mono ?_
  clear hl
  rintro e w1 ⟨rfl, hb1⟩
  have B1 := hid hb1
  clear hb1
  go_wp2_with fail
  refine (empty16 (.pointer none) s x w1 (NoHo.nil w1)).mono ?_
  rintro e w2 ⟨rfl, hb2⟩
  have B2 := hid (B1.out.trans (hb2.mono B1.out.size))
  have hb3 := (Below.refl w2.heap.size w2).alloc (Nat.le_refl _) (.cells #[.slice none 0 0, .map none, .int .u64 0, .int .u32 0] 56)
  have B3 := hid (B2.out.trans (hb3.mono B2.out.size))
  have cz := hid (NoHo.zero (h := w2.heap.size) (show (w2.alloc (.cells #[.slice none 0 0, .map none, .int .u64 0, .int .u32 0] 56)).cell? ⟨w2.heap.size, 2, none⟩ = some (.int .u64 0) from by simp))
  clear hb2 hb3 B1 B2
  go_wp2_with fail
  refine (empty16 _ s x _ cz.out).mono ?_
  rintro e w4 ⟨rfl, hb4⟩
  have B4 := hid (B3.out.trans (hb4.mono B3.out.size))
  clear hb4 cz B3
  go_wp2_with fail
  go_ret
  exact ⟨rfl, B4.out⟩

end Go.Proofs.YtmjholcpajfldaaGreatDoor
