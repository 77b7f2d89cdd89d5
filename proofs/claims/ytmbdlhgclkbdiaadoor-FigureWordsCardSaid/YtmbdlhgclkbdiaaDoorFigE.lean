/- Walks: Hex of the document; FigureSigned. -/
import Derived.Test.YtmbdlhgclkbdiaaDoorFigD
namespace Go.Proofs.YtmbdlhgclkbdiaaDoor
open Go.RowKit
set_option linter.unusedVariables false
set_option linter.unusedSimpArgs false

theorem ext16 : ∀ (d : Nat), d < 16 → (⟨#[48, 49, 50, 51, 52, 53, 54, 55, 56, 57, 97, 98, 99, 100, 101, 102]⟩ : ByteArray).extract d (d + 1) = b8 [(hd d : Int)]
  | 0, _ => by apply ByteArray.ext; rfl
  | 1, _ => by apply ByteArray.ext; rfl
  | 2, _ => by apply ByteArray.ext; rfl
  | 3, _ => by apply ByteArray.ext; rfl
  | 4, _ => by apply ByteArray.ext; rfl
  | 5, _ => by apply ByteArray.ext; rfl
  | 6, _ => by apply ByteArray.ext; rfl
  | 7, _ => by apply ByteArray.ext; rfl
  | 8, _ => by apply ByteArray.ext; rfl
  | 9, _ => by apply ByteArray.ext; rfl
  | 10, _ => by apply ByteArray.ext; rfl
  | 11, _ => by apply ByteArray.ext; rfl
  | 12, _ => by apply ByteArray.ext; rfl
  | 13, _ => by apply ByteArray.ext; rfl
  | 14, _ => by apply ByteArray.ext; rfl
  | 15, _ => by apply ByteArray.ext; rfl
  | d + 16, h => absurd h (by omega)

set_option maxHeartbeats 1000000 in
set_option maxRecDepth 100000 in
theorem hex8 (x : Nat) (hx : x < 4294967296) (w : World) :
    Calls Tryd.prog 8 #[.int .u32 x] w fun e w' => e = .returned (.string (hexT x)) ∧ w = w' := by
  go_enter Tryd.func8, Tryd.ntmps8
  go_wp2_with fail
  go_loopw [0, 3, 4] (fun a s i wr => ∃ (k y : Nat) (Z : ByteArray), k ≤ 8 ∧ a = .int .u32 y ∧ y = x / 16 ^ k ∧ s = .string Z ∧ Z = b8 (hexFix k x) ∧ i = .int .i64 k ∧ w = wr) (fun _ _ i _ => 8 - (intOf i).toNat)
  case atStart => exact ⟨0, x, _, by omega, rfl, by simp, rfl, rfl, rfl, rfl⟩
  case round =>
    obtain ⟨k, y, Z, hk, rfl, hy, rfl, hZ, rfl, rfl⟩ := hrel
    have hY := hid hy
    have hZe := hid hZ
    have hyb : y < 4294967296 := by rw [hy]; exact Nat.lt_of_le_of_lt (Nat.div_le_self _ _) hx
    have hsz : Z.size = k := by rw [hZ, b8_size, hexFix_len]
    clear hy hZ
    by_cases hlt : k < 8
    · obtain ⟨d, hd⟩ : ∃ d, d = y % 16 := ⟨_, rfl⟩
      have hD := hid hd
      have hd16 : d < 16 := by rw [hd]; exact Nat.mod_lt _ (by decide)
      have hdm : (y : Int) % 16 = (d : Int) := by rw [hd]; omega
      have hw1 : IntKind.u32.wrap ((d : Int) + 1) = (d : Int) + 1 := by rw [IntKind.wrap_u32]; omega
      clear hd
      go_wp2_with fail
      go_roundw
      case rel =>
        refine ⟨k + 1, y / 16, _, by omega, by go_num, by rw [hY.out, Nat.div_div_eq_div_mul, Nat.pow_succ], rfl, ?_, by go_num, trivial⟩
        rw [ext16 d hd16, hZe.out, b8_append, hexFix_front, ← hY.out, ← hD.out]
        rfl
      case measure => simp [intOf]; omega
    · obtain rfl : k = 8 := by omega
      have c1 : (9223372036854775807 < 2 + Z.size) = False := eq_false (by omega)
      go_wp2_with fail
      go_ret
      refine ⟨?_, rfl⟩
      have : hexT x = (⟨#[48, 120]⟩ : ByteArray) ++ Z := by
        rw [hZe.out]
        show b8 ([48, 120] ++ hexFix 8 x) = b8 [48, 120] ++ b8 (hexFix 8 x)
        rw [b8_append]
      rw [this]
      rfl

set_option maxHeartbeats 1000000 in
set_option maxRecDepth 100000 in
theorem signed_walk (x : Nat) (hx : x < 4294967296) (w : World) (htab : Lib.TabIs Tryd.prog w "internal/strconv.uint64pow10" .u64 Lib.pow10Tab) (hc : w.cell? ⟨3, 15, none⟩ = some (.int .u8 4)) :
    Calls Tryd.prog 3 #[.int .u32 x] w fun e w' => e = .returned (.bool true) ∧ Below w.heap.size w w' := by
  have h5 := hid (signed5 x hx w htab)
  have hlt := World.block_lt_of_cell? w _ hc
  have hC := hid hc
  clear htab hc
  go_enter Tryd.func3, Tryd.ntmps3
  go_wp2_with fail
  refine h5.out.mono ?_
  clear h5
  rintro e w1 ⟨rfl, hb⟩
  have hB1 := hid hb
  clear hb
  go_wp2_with fail
  refine (signed6 x hx w1).mono ?_
  rintro e w2 ⟨rfl, hb⟩
  have hB2 := hid (hB1.out.trans (hb.mono hB1.out.size))
  clear hb hB1
  generalize Lib.itoa (sgn x) = L
  go_wp2_with fail
  refine (hex7 x hx w2 ((hB2.out.cell hlt).trans hC.out)).mono ?_
  rintro e w3 ⟨rfl, hb⟩
  have hB3 := hid (hB2.out.trans (hb.mono hB2.out.size))
  clear hb hB2
  go_wp2_with fail
  refine (hex8 x hx w3).mono ?_
  rintro e w' ⟨rfl, rfl⟩
  go_wp2_with fail
  go_ret
  exact ⟨rfl, hB3.out⟩
end Go.Proofs.YtmbdlhgclkbdiaaDoor
