/- Walks and plain laws, merged: CalM CalR Frame. No condition. -/
import Derived.Test.YtlabadkfkbenoaaGreatDoorKn44
import Derived.Test.YtlabadkfkbenoaaGreatDoorKn45
import Derived.Test.YtlabadkfkbenoaaGreatDoorRows
import Derived.ProofKit
import Derived.OpenShut
import Derived.ShutString
import Derived.ChangeOld
import Derived.JoinedCond
import Derived.SizedLaws
import Derived.Test.YtlabadkfkbenoaaGreatDoorKn01
namespace Go.Proofs.YtlabadkfkbenoaaGreatDoor
open Go.RowKit
set_option linter.unusedVariables false
set_option linter.unusedSimpArgs false
set_option maxRecDepth 100000
section
open Go.Shelf
set_option maxHeartbeats 1000000 in
theorem held20_nil (w : World) : Calls Tryz.prog 20 #[.pointer none] w fun e w' => e = .returned (.slice none 0 0) ∧ w' = w := by
 go_enter Tryz.func20, Tryz.ntmps20
 go_wp2_with fail
 refine (made41_nil _).mono ?_
 rintro e w2 ⟨rfl, rfl⟩
 go_wp2_with fail
 simp [bodyPost, results, Tryz.results20, go_sem]
set_option maxHeartbeats 1000000 in
theorem held20_off (X : Nat) (w : World) (h : w.cell? ⟨X, 6, none⟩ = some (.map none)) : Calls Tryz.prog 20 #[.pointer (some ⟨X, 0, none⟩)] w fun e w' => e = .returned (.slice none 0 0) ∧ w' = w := by
 have c := hid (made41_no X _ h)
 clear h
 go_enter Tryz.func20, Tryz.ntmps20
 go_wp2_with fail
 refine c.out.mono ?_
 rintro e w2 ⟨rfl, rfl⟩
 go_wp2_with fail
 simp [bodyPost, results, Tryz.results20, go_sem]
set_option maxHeartbeats 1000000 in
theorem clone22_nil (w : World) : Calls Tryz.prog 22 #[.pointer none] w fun e w' => e = .returned (.pointer none) ∧ w' = w := by
 go_enter Tryz.func22, Tryz.ntmps22
 go_wp2_with fail
 refine (made41_nil _).mono ?_
 rintro e w2 ⟨rfl, rfl⟩
 go_wp2_with fail
 simp [bodyPost, results, Tryz.results22, go_sem]
set_option maxHeartbeats 1000000 in
theorem clone22_off (X : Nat) (w : World) (h : w.cell? ⟨X, 6, none⟩ = some (.map none)) : Calls Tryz.prog 22 #[.pointer (some ⟨X, 0, none⟩)] w fun e w' => e = .returned (.pointer none) ∧ w' = w := by
 have c := hid (made41_no X _ h)
 clear h
 go_enter Tryz.func22, Tryz.ntmps22
 go_wp2_with fail
 refine c.out.mono ?_
 rintro e w2 ⟨rfl, rfl⟩
 go_wp2_with fail
 simp [bodyPost, results, Tryz.results22, go_sem]
set_option maxHeartbeats 1000000 in
theorem put57_nil (s z : Value) (w : World) : Calls Tryz.prog 57 #[.pointer none, .agg #[s, z]] w fun e w' => e = .returned (.int .i64 1) ∧ Below w.heap.size w w' := by
 go_enter Tryz.func57, Tryz.ntmps57
 go_wp2_with fail
 refine (made41_nil _).mono ?_
 rintro e w2 ⟨rfl, rfl⟩
 go_wp2_with fail
 simp [bodyPost, results, Tryz.results57, go_sem]
 all_goals (repeat (first | exact Below.refl _ _ | refine Below.drew ?_ | refine Below.alloc ?_ (by simp <;> omega) _))
set_option maxHeartbeats 1000000 in
theorem put57_off (X : Nat) (s z : Value) (w : World) (hX : X < w.heap.size) (h : w.cell? ⟨X, 6, none⟩ = some (.map none)) : Calls Tryz.prog 57 #[.pointer (some ⟨X, 0, none⟩), .agg #[s, z]] w fun e w' => e = .returned (.int .i64 1) ∧ Below w.heap.size w w' := by
 have h2 : (w.alloc (.cells #[s, z] 82)).cell? ⟨X, 6, none⟩ = some (.map none) := by
  rw [World.cell?_alloc_past _ _ _ (by simpa using hX)]
  exact h
 have c := hid (made41_no X _ h2)
 clear h h2 hX
 go_enter Tryz.func57, Tryz.ntmps57
 go_wp2_with fail
 refine c.out.mono ?_
 rintro e w2 ⟨rfl, rfl⟩
 go_wp2_with fail
 simp [bodyPost, results, Tryz.results57, go_sem]
 all_goals (repeat (first | exact Below.refl _ _ | refine Below.drew ?_ | refine Below.alloc ?_ (by simp <;> omega) _))
set_option maxHeartbeats 4000000 in
theorem empty31_nil (s : ByteArray) (n : Int) (w : World) : Calls Tryz.prog 31 #[.pointer none, .string s, .int .i64 n] w fun e w' => e = .returned (.bool true) ∧ Below w.heap.size w w' := by
 go_enter Tryz.func31, Tryz.ntmps31
 go_wp2_with fail
 refine (call17_nil _ _ _ _ _).mono ?_
 rintro e w1 ⟨rfl, hb1⟩
 unfold zeroO
 have HB1 := hid hb1
 clear hb1
 have HA := hid (show Below w.heap.size w (w1.alloc (.cells #[.int .u8 0, .int .u32 0, .int .u8 0, .int .i64 0, .int .i64 0, .slice none 0 0] 56)) from HB1.out.alloc HB1.out.size _)
 go_wp2_with fail
 refine (held20_nil _).mono ?_
 rintro e w2 ⟨rfl, rfl⟩
 go_wp2_with fail
 refine (put57_nil _ _ _).mono ?_
 rintro e w3 ⟨rfl, hb3⟩
 have HB3 := hid (HA.out.trans (hb3.mono HA.out.size))
 clear hb3
 go_wp2_with fail
 refine (clone22_nil _).mono ?_
 rintro e w4 ⟨rfl, rfl⟩
 go_wp2_with fail
 go_ret
 exact ⟨rfl, HB3.out⟩
set_option maxHeartbeats 4000000 in
theorem empty31_off (X : Nat) (s : ByteArray) (n : Int) (w : World) (hX : X < w.heap.size) (h : w.cell? ⟨X, 6, none⟩ = some (.map none)) : Calls Tryz.prog 31 #[.pointer (some ⟨X, 0, none⟩), .string s, .int .i64 n] w fun e w' => e = .returned (.bool true) ∧ Below w.heap.size w w' := by
 have H := hid h
 have HX := hid hX
 clear h hX
 go_enter Tryz.func31, Tryz.ntmps31
 go_wp2_with fail
 refine (call17_off X _ _ _ _ _ HX.out H.out).mono ?_
 rintro e w1 ⟨rfl, hb1⟩
 unfold zeroO
 have HB1 := hid hb1
 clear hb1
 have HA := hid (show Below w.heap.size w (w1.alloc (.cells #[.int .u8 0, .int .u32 0, .int .u8 0, .int .i64 0, .int .i64 0, .slice none 0 0] 56)) from HB1.out.alloc HB1.out.size _)
 go_wp2_with fail
 refine (held20_off X _ (cell_on H.out HA.out)).mono ?_
 rintro e w2 ⟨rfl, rfl⟩
 go_wp2_with fail
 refine (put57_off X _ _ _ (Nat.lt_of_lt_of_le HX.out HA.out.size) (cell_on H.out HA.out)).mono ?_
 rintro e w3 ⟨rfl, hb3⟩
 have HB3 := hid (HA.out.trans (hb3.mono HA.out.size))
 clear hb3
 go_wp2_with fail
 refine (clone22_off X _ (cell_on H.out HB3.out)).mono ?_
 rintro e w4 ⟨rfl, rfl⟩
 go_wp2_with fail
 go_ret
 exact ⟨rfl, HB3.out⟩
end
section
open Go.Shelf
set_option maxHeartbeats 4000000 in
theorem none7 (s : ByteArray) (n : Int) (w : World) : Calls Tryz.prog 7 #[.string s, .int .i64 n] w fun e w' => e = .returned (.bool true) ∧ Below w.heap.size w w' := by
 have c1 := hid (lives8 w)
 go_enter Tryz.func7, Tryz.ntmps7
 go_wp2_with fail
 refine c1.out.mono ?_
 rintro e w1 ⟨rfl, hb1⟩
 have B1 := hid hb1
 have c2 := hid (empty31_nil s n w1)
 clear c1 hb1
 go_wp2_with fail
 refine c2.out.mono ?_
 rintro e w2 ⟨rfl, hb2⟩
 have B2 := hid (B1.out.trans (hb2.mono B1.out.size))
 clear c2 hb2
 have c3 := hid (empty31_off w2.heap.size s n (w2.alloc (.cells #[.slice none 0 0, .slice none 0 0, .slice none 0 0, .map none, .map none, .slice none 0 0, .map none] 94)) (by simp) (by simp))
 have B3 := hid (B2.out.alloc B2.out.size (.cells #[.slice none 0 0, .slice none 0 0, .slice none 0 0, .map none, .map none, .slice none 0 0, .map none] 94))
 go_wp2_with fail
 refine c3.out.mono ?_
 rintro e w4 ⟨rfl, hb4⟩
 have B4 := hid (B3.out.trans (hb4.mono B3.out.size))
 clear c3 hb4
 go_wp2_with fail
 go_ret
 exact ⟨rfl, B4.out⟩
end
section
open Go.ChangeShapes Go.WideShapes Go.ChangeAt Go.RowKit
open Go.ChangeMaps (open_string shut_string)
section
variable {H : Type} {enc : TypeId × Value → H} {P : Program} {w : World}
end
theorem own : ownKnob Tryz.prog.godebug = none := by kernel_rfl
theorem laidOut : laidOutB Tryz.prog = true := by kernel_rfl
end
end Go.Proofs.YtlabadkfkbenoaaGreatDoor
