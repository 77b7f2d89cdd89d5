/- Walks: empty; the calls' closures; a clone of bytes, a memory of bytes. No condition. -/
import Derived.Test.YtmjholcpajfldaaGreatDoorHostC
namespace Go.Proofs.YtmjholcpajfldaaGreatDoor
open Go.RowKit
set_option linter.unusedVariables false
set_option linter.unusedSimpArgs false

set_option maxRecDepth 100000

set_option maxHeartbeats 2000000 in
theorem empty16 (p : Value) (s : ByteArray) (x : Int) (w : World) (hp : NoHo w p) : Calls Tryz.prog 16 #[p, .string s, .int .u32 x] w fun e w' => e = .returned (.bool true) ∧ Below w.heap.size w w' := by
  obtain ⟨d0, hd0⟩ : ∃ d, d = Value.slice (some ⟨w.heap.size, 0, none⟩) 256 256 := ⟨_, rfl⟩
  have hmk : (Instr.makeSlice 27 (.int .i64 256) (.int .i64 256)).run Tryz.prog w = .ok d0 (w.alloc (.cells (Array.replicate 256 (.int .u8 0)) 5)) := by rw [hd0]; kernel_rfl
  have hb0 := hid ((Below.refl w.heap.size w).alloc (Nat.le_refl _) (.cells (Array.replicate 256 (.int .u8 0)) 5))
  generalize w.alloc (.cells (Array.replicate 256 (.int .u8 0)) 5) = w0 at hmk hb0
  have P0 := hid (hp.mono hb0.out)
  clear hp hd0
  go_enter Tryz.func16, Tryz.ntmps16
  go_wp2_with (go_at_call 9; refine (answer9_no p _ _ 30 _ P0.out).mono ?_; rintro e w1 ⟨rfl, hb1⟩; have P1 := hid (P0.out.mono hb1); have B1 := hid (hb0.out.trans (hb1.mono hb0.out.size)); clear hb1 P0 hb0)
  have P2 := hid (P1.out.mono ((Below.refl _ w1).alloc (Nat.le_refl _) (.cells #[.int .u32 0, .slice none 0 0] 30)))
  have B2 := hid (B1.out.alloc (by have := B1.out.size; exact this) (.cells #[.int .u32 0, .slice none 0 0] 30))
  clear P1
  refine (get28_no p s _ P2.out).mono ?_
  rintro e w2 ⟨rfl, rfl⟩
  have c1 := hid (tick29_no p x _ P2.out)
  have c2 := hid (set30_no p s x _ P2.out)
  have c3 := hid (console15_no p _ P2.out)
  have c4 := hid (state20_no p _ P2.out)
  clear P2 B1
  go_wp2_with (first
    | (go_at_call 29; refine c1.out.mono ?_; rintro e w2 ⟨rfl, rfl⟩)
    | (go_at_call 30; refine c2.out.mono ?_; rintro e w2 ⟨rfl, rfl⟩)
    | (go_at_call 15; refine c3.out.mono ?_; rintro e w2 ⟨rfl, rfl⟩))
  refine c4.out.mono ?_
  rintro e w3 ⟨rfl, hb3⟩
  have B3 := hid (B2.out.trans (hb3.mono B2.out.size))
  clear hb3 c1 c2 c3 c4 B2
  go_wp2_with (go_at_call 18; refine (same18_nil _).mono ?_; rintro e w4 ⟨rfl, hb4⟩; have B4 := hid (B3.out.trans (hb4.mono B3.out.size)); clear hb4)
  go_ret
  exact ⟨rfl, B4.out⟩

end Go.Proofs.YtmjholcpajfldaaGreatDoor
