/- Walks and plain laws, merged: ChkD SenD SenE ChkE ChkF TreeE. No condition. -/
import Derived.Test.YtlabadkfkbenoaaGreatDoorProg
import Derived.Test.YtlabadkfkbenoaaGreatDoorKm04
import Derived.Test.YtlabadkfkbenoaaGreatDoorKm02
import Derived.Laws.OwnMore
import Derived.Outline
import Derived.Deep.RegionHeld3
import Derived.Test.YtlabadkfkbenoaaGreatDoorKm01
namespace Go.Proofs.YtlabadkfkbenoaaGreatDoor
open Go.RowKit
set_option linter.unusedVariables false
set_option linter.unusedSimpArgs false
set_option maxRecDepth 100000
set_option maxHeartbeats 64000000
section
open Go.Shelf
def typeB (t : Int) : Bool := t == 1 || t == 2
theorem isType30 (t : Int) (w : World) : Calls Tryz.prog 135 #[.int .u8 t] w fun e w' => e = .returned (.bool (typeB t)) ∧ w' = w := by
 go_enter Tryz.func135, Tryz.ntmps135
 cases h1 : t == 1
 ·cases h2 : t == 2
  ·go_wp2_with fail
   go_ret
   exact ⟨ret_bool (by simp only [typeB, h1, h2]; rfl), rfl⟩
  ·go_wp2_with fail
   go_ret
   exact ⟨ret_bool (by simp only [typeB, h1, h2]; rfl), rfl⟩
 ·go_wp2_with fail
  go_ret
  exact ⟨ret_bool (by simp only [typeB, h1]; rfl), rfl⟩
def finB (x : Int) : Bool := x / 8388608 % 256 != 255
theorem nat_expo (a : Nat) : a &&& 2139095040 = (a / 8388608 % 256) * 8388608 := by
 have h1 : (2139095040 : Nat) = 255 <<< 23 := by decide
 have h2 : a / 8388608 % 256 = (a >>> 23) &&& 255 := by
  rw [Nat.shiftRight_eq_div_pow]
  exact (Nat.and_two_pow_sub_one_eq_mod _ 8).symm
 have h3 : ∀ b : Nat, b * 8388608 = b <<< 23 := fun b => by rw [Nat.shiftLeft_eq]
 rw [h2, h3, h1]
 apply Nat.eq_of_testBit_eq
 intro i
 simp only [Nat.testBit_and, Nat.testBit_shiftLeft, Nat.testBit_shiftRight]
 by_cases hi : 23 ≤ i
 ·simp [hi, show 23 + (i - 23) = i by omega]
 ·simp [hi]
theorem and_expo (x : Int) (hx : 0 ≤ x ∧ x < 4294967296) : (bits BinOp.and IntKind.u32 x 2139095040 != 2139095040) = finB x := by
 obtain ⟨a, rfl⟩ := Int.eq_ofNat_of_zero_le hx.1
 have h1 : (BitVec.ofInt 32 (a : Int)).toNat = a := by
  rw [BitVec.ofInt_natCast, BitVec.toNat_ofNat]; exact Nat.mod_eq_of_lt (by omega)
 have h2 : (BitVec.ofInt 32 2139095040).toNat = 2139095040 := by decide
 have e : bits BinOp.and .u32 (a : Int) 2139095040 = ((a &&& 2139095040 : Nat) : Int) := by
  show IntKind.u32.wrap ((BitVec.ofInt 32 (a : Int) &&& BitVec.ofInt 32 2139095040).toNat : Int) = _
  rw [BitVec.toNat_and, h1, h2]
  have := Nat.and_le_left (n := a) (m := 2139095040)
  simp only [IntKind.wrap, IntKind.bits, IntKind.signed]
  simp
  omega
 rw [e, nat_expo]
 unfold finB
 rw [Bool.eq_iff_iff]
 simp
 omega
theorem finite41 (x : Int) (hx : 0 ≤ x ∧ x < 4294967296) (w : World) : Calls Tryz.prog 164 #[.int .u32 x] w fun e w' => e = .returned (.bool (finB x)) ∧ w' = w := by
 go_enter Tryz.func164, Tryz.ntmps164
 obtain ⟨hx1, hx2⟩ := hx
 go_wp2_with fail
 go_ret
 exact ⟨ret_bool (and_expo x ⟨hx1, hx2⟩), rfl⟩
open Go.Shelf
def bareB (word type : Int) (name sign : ByteArray) (n k : Nat) : Bool := word == 0 && (type == 0 && (name.toList.isEmpty && (sign.toList.isEmpty && ((n : Int) == (k : Int)))))
def plainS (name : ByteArray) (type : Int) (sign : ByteArray) (n k nb ne : Nat) : Bool := name.toList.isEmpty && (type == 0 && (sign.toList.isEmpty && (((n : Int) == (k : Int)) && (((nb : Int) == 0) && ((ne : Int) == 0)))))
theorem bare61 (a0 a1 a2 a3 : Int) (a4 a5 : ByteArray) (ka : Option Addr) (n c k : Nat) (w : World) :
  Calls Tryz.prog 209 #[.agg #[.int .i64 a0, .int .u8 a1, .int .u32 a2, .int .u8 a3, .string a4, .string a5, .slice ka n c], .int .i64 k] w fun e w' => e = .returned (.bool (bareB a2 a3 a4 a5 n k)) ∧ Below w.heap.size w w' := by
 have hB := hid ((Below.refl w.heap.size w).alloc (Nat.le_refl _) (.cells #[.int .i64 a0, .int .u8 a1, .int .u32 a2, .int .u8 a3, .string a4, .string a5, .slice ka n c] 134))
 go_enter Tryz.func209, Tryz.ntmps209
 cases h2 : a2 == 0
 ·go_wp2_with fail
  go_ret
  exact ⟨ret_bool (by simp only [bareB, h2, Bool.true_and, Bool.false_and]), hB.out⟩
 cases h3 : a3 == 0
 ·go_wp2_with fail
  go_ret
  exact ⟨ret_bool (by simp only [bareB, h2, h3, Bool.true_and, Bool.false_and]), hB.out⟩
 cases h4 : a4.toList.isEmpty
 ·go_wp2_with fail
  go_ret
  exact ⟨ret_bool (by simp only [bareB, h2, h3, h4, Bool.true_and, Bool.false_and]), hB.out⟩
 cases h5 : a5.toList.isEmpty
 ·go_wp2_with fail
  go_ret
  exact ⟨ret_bool (by simp only [bareB, h2, h3, h4, h5, Bool.true_and, Bool.false_and]), hB.out⟩
 cases h6 : (n : Int) == (k : Int)
 ·go_wp2_with fail
  go_ret
  exact ⟨ret_bool (by simp only [bareB, h2, h3, h4, h5, h6, Bool.true_and, Bool.false_and]), hB.out⟩
 go_wp2_with fail
 go_ret
 exact ⟨ret_bool (by simp only [bareB, h2, h3, h4, h5, h6, Bool.true_and]), hB.out⟩
theorem plain58 (a0 a1 : Int) (a2 : ByteArray) (a3 : Int) (a4 : ByteArray) (xa ba ea : Option Addr) (n xc nb bc ne ec k : Nat) (w : World) :
  Calls Tryz.prog 206 #[.agg #[.int .i64 a0, .int .u8 a1, .string a2, .int .u8 a3, .string a4, .slice xa n xc, .slice ba nb bc, .slice ea ne ec], .int .i64 k] w fun e w' => e = .returned (.bool (plainS a2 a3 a4 n k nb ne)) ∧ Below w.heap.size w w' := by
 have hB := hid ((Below.refl w.heap.size w).alloc (Nat.le_refl _) (.cells #[.int .i64 a0, .int .u8 a1, .string a2, .int .u8 a3, .string a4, .slice xa n xc, .slice ba nb bc, .slice ea ne ec] 109))
 go_enter Tryz.func206, Tryz.ntmps206
 cases h2 : a2.toList.isEmpty
 ·go_wp2_with fail
  go_ret
  exact ⟨ret_bool (by simp only [plainS, h2, Bool.true_and, Bool.false_and]), hB.out⟩
 cases h3 : a3 == 0
 ·go_wp2_with fail
  go_ret
  exact ⟨ret_bool (by simp only [plainS, h2, h3, Bool.true_and, Bool.false_and]), hB.out⟩
 cases h4 : a4.toList.isEmpty
 ·go_wp2_with fail
  go_ret
  exact ⟨ret_bool (by simp only [plainS, h2, h3, h4, Bool.true_and, Bool.false_and]), hB.out⟩
 cases h5 : (n : Int) == (k : Int)
 ·go_wp2_with fail
  go_ret
  exact ⟨ret_bool (by simp only [plainS, h2, h3, h4, h5, Bool.true_and, Bool.false_and]), hB.out⟩
 cases h6 : (nb : Int) == 0
 ·go_wp2_with fail
  go_ret
  exact ⟨ret_bool (by simp only [plainS, h2, h3, h4, h5, h6, Bool.true_and, Bool.false_and]), hB.out⟩
 cases h7 : (ne : Int) == 0
 ·go_wp2_with fail
  go_ret
  exact ⟨ret_bool (by simp only [plainS, h2, h3, h4, h5, h6, h7, Bool.true_and, Bool.false_and]), hB.out⟩
 go_wp2_with fail
 go_ret
 exact ⟨ret_bool (by simp only [plainS, h2, h3, h4, h5, h6, h7, Bool.true_and]), hB.out⟩
open Go.Shelf
def lv0 : List ByteArray := [⟨#[124, 124]⟩]
def lv1 : List ByteArray := [⟨#[38, 38]⟩]
def lv2 : List ByteArray := [⟨#[61, 61]⟩, ⟨#[33, 61]⟩, ⟨#[60]⟩, ⟨#[60, 61]⟩, ⟨#[62]⟩, ⟨#[62, 61]⟩]
def lv3 : List ByteArray := [⟨#[124]⟩, ⟨#[94]⟩]
def lv4 : List ByteArray := [⟨#[38]⟩]
def lv5 : List ByteArray := [⟨#[60, 60]⟩, ⟨#[62, 62]⟩]
def lv6 : List ByteArray := [⟨#[43]⟩, ⟨#[45]⟩]
def lv7 : List ByteArray := [⟨#[42]⟩, ⟨#[47]⟩, ⟨#[37]⟩]
def levL : List (List ByteArray) := [lv0, lv1, lv2, lv3, lv4, lv5, lv6, lv7]
def levB (x : ByteArray) : Bool := levL.any (inList · x)
def setsL : List ByteArray := [⟨#[]⟩, ⟨#[43]⟩, ⟨#[45]⟩, ⟨#[42]⟩, ⟨#[47]⟩, ⟨#[37]⟩, ⟨#[38]⟩, ⟨#[124]⟩, ⟨#[94]⟩, ⟨#[60, 60]⟩, ⟨#[62, 62]⟩]
def unaL : List ByteArray := [⟨#[45]⟩, ⟨#[33]⟩, ⟨#[126]⟩]
structure LevIn (B : Nat) (w : World) : Prop where
 rows : ∀ j (h : j < levL.length), w.cell? ⟨B + 8, j, none⟩ = some (.slice (some ⟨B + j, 0, none⟩) levL[j].length levL[j].length)
 cells : ∀ j (h : j < levL.length) i (hi : i < levL[j].length), w.cell? ⟨B + j, i, none⟩ = some (.string levL[j][i])
theorem cell_bx {w : World} {q : Nat} {L : List ByteArray} (h : Bx w q (L.map Value.string).toArray 9) (i : Nat) (hi : i < L.length) : w.cell? ⟨q, i, none⟩ = some (.string L[i]) := by
 rw [h.cell]
 simp [hi]
theorem levels101 (w : World) : Calls Tryz.prog 258 #[] w fun e w' => e = .returned (.slice (some ⟨w.heap.size + 8, 0, none⟩) 8 8) ∧ LevIn w.heap.size w' ∧ Below w.heap.size w w' := by
 obtain ⟨w0, hw0⟩ : ∃ w0, w0 = w := ⟨_, rfl⟩
 obtain ⟨w1, hw1⟩ : ∃ x, x = w0.alloc (.cells (lv0.map Value.string).toArray 9) := ⟨_, rfl⟩
 have hs1 : w1.heap.size = w.heap.size + 1 := by rw [hw1]; simp [hw0]
 obtain ⟨w2, hw2⟩ : ∃ x, x = w1.alloc (.cells (lv1.map Value.string).toArray 9) := ⟨_, rfl⟩
 have hs2 : w2.heap.size = w.heap.size + 2 := by rw [hw2]; simp; omega
 obtain ⟨w3, hw3⟩ : ∃ x, x = w2.alloc (.cells (lv2.map Value.string).toArray 9) := ⟨_, rfl⟩
 have hs3 : w3.heap.size = w.heap.size + 3 := by rw [hw3]; simp; omega
 obtain ⟨w4, hw4⟩ : ∃ x, x = w3.alloc (.cells (lv3.map Value.string).toArray 9) := ⟨_, rfl⟩
 have hs4 : w4.heap.size = w.heap.size + 4 := by rw [hw4]; simp; omega
 obtain ⟨w5, hw5⟩ : ∃ x, x = w4.alloc (.cells (lv4.map Value.string).toArray 9) := ⟨_, rfl⟩
 have hs5 : w5.heap.size = w.heap.size + 5 := by rw [hw5]; simp; omega
 obtain ⟨w6, hw6⟩ : ∃ x, x = w5.alloc (.cells (lv5.map Value.string).toArray 9) := ⟨_, rfl⟩
 have hs6 : w6.heap.size = w.heap.size + 6 := by rw [hw6]; simp; omega
 obtain ⟨w7, hw7⟩ : ∃ x, x = w6.alloc (.cells (lv6.map Value.string).toArray 9) := ⟨_, rfl⟩
 have hs7 : w7.heap.size = w.heap.size + 7 := by rw [hw7]; simp; omega
 obtain ⟨w8, hw8⟩ : ∃ x, x = w7.alloc (.cells (lv7.map Value.string).toArray 9) := ⟨_, rfl⟩
 have hs8 : w8.heap.size = w.heap.size + 8 := by rw [hw8]; simp; omega
 obtain ⟨w9, hw9⟩ : ∃ x, x = w8.alloc (.cells #[.slice (some ⟨w.heap.size + 0, 0, none⟩) 1 1, .slice (some ⟨w.heap.size + 1, 0, none⟩) 1 1, .slice (some ⟨w.heap.size + 2, 0, none⟩) 6 6, .slice (some ⟨w.heap.size + 3, 0, none⟩) 2 2, .slice (some ⟨w.heap.size + 4, 0, none⟩) 1 1, .slice (some ⟨w.heap.size + 5, 0, none⟩) 2 2, .slice (some ⟨w.heap.size + 6, 0, none⟩) 2 2, .slice (some ⟨w.heap.size + 7, 0, none⟩) 3 3] 174) := ⟨_, rfl⟩
 have b0 : Bx w9 (w.heap.size + 0) (lv0.map Value.string).toArray 9 := by
  have h := Bx.new w0 (lv0.map Value.string).toArray 9
  rw [← hw1] at h
  have h := h.on (w' := w2) (row := none) (by rw [hw2]; exact World.grownBy_alloc _ _ _) (by simp)
  have h := h.on (w' := w3) (row := none) (by rw [hw3]; exact World.grownBy_alloc _ _ _) (by simp)
  have h := h.on (w' := w4) (row := none) (by rw [hw4]; exact World.grownBy_alloc _ _ _) (by simp)
  have h := h.on (w' := w5) (row := none) (by rw [hw5]; exact World.grownBy_alloc _ _ _) (by simp)
  have h := h.on (w' := w6) (row := none) (by rw [hw6]; exact World.grownBy_alloc _ _ _) (by simp)
  have h := h.on (w' := w7) (row := none) (by rw [hw7]; exact World.grownBy_alloc _ _ _) (by simp)
  have h := h.on (w' := w8) (row := none) (by rw [hw8]; exact World.grownBy_alloc _ _ _) (by simp)
  have h := h.on (w' := w9) (row := none) (by rw [hw9]; exact World.grownBy_alloc _ _ _) (by simp)
  rw [hw0] at h
  exact h
 have b1 : Bx w9 (w.heap.size + 1) (lv1.map Value.string).toArray 9 := by
  have h := Bx.new w1 (lv1.map Value.string).toArray 9
  rw [← hw2] at h
  have h := h.on (w' := w3) (row := none) (by rw [hw3]; exact World.grownBy_alloc _ _ _) (by simp)
  have h := h.on (w' := w4) (row := none) (by rw [hw4]; exact World.grownBy_alloc _ _ _) (by simp)
  have h := h.on (w' := w5) (row := none) (by rw [hw5]; exact World.grownBy_alloc _ _ _) (by simp)
  have h := h.on (w' := w6) (row := none) (by rw [hw6]; exact World.grownBy_alloc _ _ _) (by simp)
  have h := h.on (w' := w7) (row := none) (by rw [hw7]; exact World.grownBy_alloc _ _ _) (by simp)
  have h := h.on (w' := w8) (row := none) (by rw [hw8]; exact World.grownBy_alloc _ _ _) (by simp)
  have h := h.on (w' := w9) (row := none) (by rw [hw9]; exact World.grownBy_alloc _ _ _) (by simp)
  rw [hs1] at h
  exact h
 have b2 : Bx w9 (w.heap.size + 2) (lv2.map Value.string).toArray 9 := by
  have h := Bx.new w2 (lv2.map Value.string).toArray 9
  rw [← hw3] at h
  have h := h.on (w' := w4) (row := none) (by rw [hw4]; exact World.grownBy_alloc _ _ _) (by simp)
  have h := h.on (w' := w5) (row := none) (by rw [hw5]; exact World.grownBy_alloc _ _ _) (by simp)
  have h := h.on (w' := w6) (row := none) (by rw [hw6]; exact World.grownBy_alloc _ _ _) (by simp)
  have h := h.on (w' := w7) (row := none) (by rw [hw7]; exact World.grownBy_alloc _ _ _) (by simp)
  have h := h.on (w' := w8) (row := none) (by rw [hw8]; exact World.grownBy_alloc _ _ _) (by simp)
  have h := h.on (w' := w9) (row := none) (by rw [hw9]; exact World.grownBy_alloc _ _ _) (by simp)
  rw [hs2] at h
  exact h
 have b3 : Bx w9 (w.heap.size + 3) (lv3.map Value.string).toArray 9 := by
  have h := Bx.new w3 (lv3.map Value.string).toArray 9
  rw [← hw4] at h
  have h := h.on (w' := w5) (row := none) (by rw [hw5]; exact World.grownBy_alloc _ _ _) (by simp)
  have h := h.on (w' := w6) (row := none) (by rw [hw6]; exact World.grownBy_alloc _ _ _) (by simp)
  have h := h.on (w' := w7) (row := none) (by rw [hw7]; exact World.grownBy_alloc _ _ _) (by simp)
  have h := h.on (w' := w8) (row := none) (by rw [hw8]; exact World.grownBy_alloc _ _ _) (by simp)
  have h := h.on (w' := w9) (row := none) (by rw [hw9]; exact World.grownBy_alloc _ _ _) (by simp)
  rw [hs3] at h
  exact h
 have b4 : Bx w9 (w.heap.size + 4) (lv4.map Value.string).toArray 9 := by
  have h := Bx.new w4 (lv4.map Value.string).toArray 9
  rw [← hw5] at h
  have h := h.on (w' := w6) (row := none) (by rw [hw6]; exact World.grownBy_alloc _ _ _) (by simp)
  have h := h.on (w' := w7) (row := none) (by rw [hw7]; exact World.grownBy_alloc _ _ _) (by simp)
  have h := h.on (w' := w8) (row := none) (by rw [hw8]; exact World.grownBy_alloc _ _ _) (by simp)
  have h := h.on (w' := w9) (row := none) (by rw [hw9]; exact World.grownBy_alloc _ _ _) (by simp)
  rw [hs4] at h
  exact h
 have b5 : Bx w9 (w.heap.size + 5) (lv5.map Value.string).toArray 9 := by
  have h := Bx.new w5 (lv5.map Value.string).toArray 9
  rw [← hw6] at h
  have h := h.on (w' := w7) (row := none) (by rw [hw7]; exact World.grownBy_alloc _ _ _) (by simp)
  have h := h.on (w' := w8) (row := none) (by rw [hw8]; exact World.grownBy_alloc _ _ _) (by simp)
  have h := h.on (w' := w9) (row := none) (by rw [hw9]; exact World.grownBy_alloc _ _ _) (by simp)
  rw [hs5] at h
  exact h
 have b6 : Bx w9 (w.heap.size + 6) (lv6.map Value.string).toArray 9 := by
  have h := Bx.new w6 (lv6.map Value.string).toArray 9
  rw [← hw7] at h
  have h := h.on (w' := w8) (row := none) (by rw [hw8]; exact World.grownBy_alloc _ _ _) (by simp)
  have h := h.on (w' := w9) (row := none) (by rw [hw9]; exact World.grownBy_alloc _ _ _) (by simp)
  rw [hs6] at h
  exact h
 have b7 : Bx w9 (w.heap.size + 7) (lv7.map Value.string).toArray 9 := by
  have h := Bx.new w7 (lv7.map Value.string).toArray 9
  rw [← hw8] at h
  have h := h.on (w' := w9) (row := none) (by rw [hw9]; exact World.grownBy_alloc _ _ _) (by simp)
  rw [hs7] at h
  exact h
 have b8 : Bx w9 (w.heap.size + 8) #[.slice (some ⟨w.heap.size + 0, 0, none⟩) 1 1, .slice (some ⟨w.heap.size + 1, 0, none⟩) 1 1, .slice (some ⟨w.heap.size + 2, 0, none⟩) 6 6, .slice (some ⟨w.heap.size + 3, 0, none⟩) 2 2, .slice (some ⟨w.heap.size + 4, 0, none⟩) 1 1, .slice (some ⟨w.heap.size + 5, 0, none⟩) 2 2, .slice (some ⟨w.heap.size + 6, 0, none⟩) 2 2, .slice (some ⟨w.heap.size + 7, 0, none⟩) 3 3] 174 := by
  have h := Bx.new w8 #[.slice (some ⟨w.heap.size + 0, 0, none⟩) 1 1, .slice (some ⟨w.heap.size + 1, 0, none⟩) 1 1, .slice (some ⟨w.heap.size + 2, 0, none⟩) 6 6, .slice (some ⟨w.heap.size + 3, 0, none⟩) 2 2, .slice (some ⟨w.heap.size + 4, 0, none⟩) 1 1, .slice (some ⟨w.heap.size + 5, 0, none⟩) 2 2, .slice (some ⟨w.heap.size + 6, 0, none⟩) 2 2, .slice (some ⟨w.heap.size + 7, 0, none⟩) 3 3] 174
  rw [← hw9, hs8] at h
  exact h
 have hbl : Below w.heap.size w w9 := by
  have g0 : Below w.heap.size w w0 := by rw [hw0]; exact Below.refl _ _
  have g1 : Below w.heap.size w w1 := by rw [hw1]; exact g0.alloc g0.size _
  have g2 : Below w.heap.size w w2 := by rw [hw2]; exact g1.alloc g1.size _
  have g3 : Below w.heap.size w w3 := by rw [hw3]; exact g2.alloc g2.size _
  have g4 : Below w.heap.size w w4 := by rw [hw4]; exact g3.alloc g3.size _
  have g5 : Below w.heap.size w w5 := by rw [hw5]; exact g4.alloc g4.size _
  have g6 : Below w.heap.size w w6 := by rw [hw6]; exact g5.alloc g5.size _
  have g7 : Below w.heap.size w w7 := by rw [hw7]; exact g6.alloc g6.size _
  have g8 : Below w.heap.size w w8 := by rw [hw8]; exact g7.alloc g7.size _
  have g9 : Below w.heap.size w w9 := by rw [hw9]; exact g8.alloc g8.size _
  exact g9
 have hL : Hid (LevIn w.heap.size w9) := hid {
  rows := fun j h => by
   rw [b8.cell]
   match j, h with
   | 0, _ => rfl
   | 1, _ => rfl
   | 2, _ => rfl
   | 3, _ => rfl
   | 4, _ => rfl
   | 5, _ => rfl
   | 6, _ => rfl
   | 7, _ => rfl
  cells := fun j h i hi => by
   match j, h with
   | 0, _ => exact cell_bx b0 i hi
   | 1, _ => exact cell_bx b1 i hi
   | 2, _ => exact cell_bx b2 i hi
   | 3, _ => exact cell_bx b3 i hi
   | 4, _ => exact cell_bx b4 i hi
   | 5, _ => exact cell_bx b5 i hi
   | 6, _ => exact cell_bx b6 i hi
   | 7, _ => exact cell_bx b7 i hi }
 have hBL := hid hbl
 clear hbl b0 b1 b2 b3 b4 b5 b6 b7 b8 hs8 hs7 hs6 hs5 hs4 hs3 hs2 hs1
 subst hw9
 subst hw8
 subst hw7
 subst hw6
 subst hw5
 subst hw4
 subst hw3
 subst hw2
 subst hw1
 subst hw0
 go_enter Tryz.func258, Tryz.ntmps258
 go_wp2_with fail
 go_ret
 exact ⟨rfl, hL.out, hBL.out⟩
open Go.Shelf
theorem levL_len : levL.length = 8 := rfl
theorem levB_no {x : ByteArray} (h : ∀ j (hj : j < levL.length), inList levL[j] x = false) : levB x = false := by
 unfold levB
 rw [List.any_eq_false]
 intro l hl
 obtain ⟨j, hj, rfl⟩ := List.getElem_of_mem hl
 rw [h j hj]
 simp
theorem levB_yes {x : ByteArray} {j : Nat} (hj : j < levL.length) (h : inList levL[j] x = true) : levB x = true :=
 List.any_eq_true.2 ⟨_, List.getElem_mem hj, h⟩
theorem lev_small : ∀ j (h : j < levL.length), levL[j].length ≤ 1000 := by decide
theorem levelOf83 (x : ByteArray) (w : World) : Calls Tryz.prog 237 #[.string x] w fun e w' => (∃ r : Int, e = .returned (.int .i64 r) ∧ decide (0 < r) = levB x) ∧ Below w.heap.size w w' := by
 have hcall := hid (levels101 w)
 go_enter Tryz.func237, Tryz.ntmps237
 go_wp2_with fail
 refine hcall.out.mono ?_
 rintro e w2 ⟨rfl, hL, hb⟩
 have hL' := hid hL
 have hB := hid hb
 clear hL hb hcall
 go_wp2_with fail
 go_loopw [7] (fun y wr => ∃ k : Nat, y = .int .i64 k ∧ k ≤ 8 ∧ (∀ j (hj : j < levL.length), j < k → inList levL[j] x = false) ∧ wr = w2) (fun y _ => 8 - (intOf y).toNat)
 case atStart => exact ⟨0, rfl, Nat.zero_le _, fun j _ hj => by omega, rfl⟩
 case round =>
  obtain ⟨k, rfl, hk, hno, hw⟩ := hrel
  subst wr
  have hno' := hid hno
  clear hno
  by_cases hlt : k < 8
  ·have hr := hL'.out.rows k (by rw [levL_len]; exact hlt)
   have hc := hid (contains59 (levL[k]'(by rw [levL_len]; exact hlt)) (w.heap.size + k) x w2 (lev_small k (by rw [levL_len]; exact hlt)) (hL'.out.cells k (by rw [levL_len]; exact hlt)))
   generalize hLk : levL[k]'(by rw [levL_len]; exact hlt) = Lk at *
   have hLk' := hid hLk
   clear hLk
   go_wp2_with fail
   refine hc.out.mono ?_
   rintro e w3 ⟨rfl, hw⟩
   subst w3
   cases hq : inList Lk x
   ·have key : Hid (∀ j (hj : j < levL.length), j < k + 1 → inList levL[j] x = false) := hid (fun j hj hjk => by
     rcases Nat.lt_or_ge j k with h1 | h1
     ·exact hno'.out j hj h1
     ·have e : j = k := by omega
      subst e
      rw [hLk'.out]
      exact hq)
    go_wp2_with fail
    go_roundw
    case rel => exact ⟨k + 1, by go_num, by omega, key.out, trivial⟩
    case measure => simp [intOf]; omega
   ·go_wp2_with fail
    go_ret
    refine ⟨⟨_, rfl, ?_⟩, hB.out⟩
    rw [levB_yes (x := x) (j := k) (by rw [levL_len]; exact hlt) (by rw [hLk'.out]; exact hq)]
    simp
    try omega
  ·go_wp2_with fail
   go_ret
   refine ⟨⟨_, rfl, ?_⟩, hB.out⟩
   rw [levB_no (fun j hj => hno'.out j hj (by have := levL_len; omega))]
   rfl
theorem isBinary62 (x : ByteArray) (w : World) : Calls Tryz.prog 210 #[.string x] w fun e w' => e = .returned (.bool (levB x)) ∧ Below w.heap.size w w' := by
 have hcall := hid (levelOf83 x w)
 go_enter Tryz.func210, Tryz.ntmps210
 go_wp2_with fail
 refine hcall.out.mono ?_
 rintro e w2 ⟨⟨r, rfl, hr⟩, hb⟩
 have hr' := hid hr
 have hb' := hid hb
 clear hr hb
 go_wp2_with fail
 go_ret
 exact ⟨ret_bool hr'.out, hb'.out⟩
theorem sets60 (w : World) : Calls Tryz.prog 208 #[] w fun e w' => e = .returned (.slice (some ⟨w.heap.size, 0, none⟩) 11 11) ∧ w' = w.alloc (.cells (setsL.map Value.string).toArray 9) := by
 go_enter Tryz.func208, Tryz.ntmps208
 go_wp2_with fail
 go_ret
 exact ⟨rfl, rfl⟩
end
section
open Go.Shelf
def ariL : List ByteArray := [⟨#[43]⟩, ⟨#[45]⟩, ⟨#[42]⟩, ⟨#[47]⟩]
def binT (sign : ByteArray) (a b : Int) : Except Int Int :=
 if a ≠ b then .error 292 else if inList ariL sign then .ok a else if inList lv2 sign then .ok 1 else if a = 1 then .ok 1 else .error 292
theorem ari_or (s : ByteArray) : inList ariL s = (s.toList == [43] || (s.toList == [45] || (s.toList == [42] || s.toList == [47]))) := by
 simp only [inList, ariL, List.any_cons, List.any_nil, lit_toList, Bool.or_false]
theorem lv2_or (s : ByteArray) : inList lv2 s = (s.toList == [61, 61] || (s.toList == [33, 61] || (s.toList == [60] || (s.toList == [60, 61] || (s.toList == [62] || s.toList == [62, 61]))))) := by
 simp only [inList, lv2, List.any_cons, List.any_nil, lit_toList, Bool.or_false]
theorem binary119 (s : ByteArray) (a b : Int) (w : World) : Calls Tryz.prog 119 #[.string s, .int .u8 a, .int .u8 b] w fun e w' => e = outT (binT s a b) ∧ w' = w := by
 by_cases hab : a = b
 ·subst b
  have c1 := hid (ask_y 292 w)
  have p0 := ari_or s
  have p1 := lv2_or s
  cases h0 : s.toList == [43]
  case true =>
   have hh := hid (show binT s a a = .ok a by unfold binT; rw [p0, p1]; simp [h0])
   clear p0 p1
   go_enter Tryz.func119, Tryz.ntmps119
   go_wp2_with fail
   refine c1.out.mono ?_
   rintro e w2 ⟨rfl, hw⟩
   subst w2
   clear c1
   go_wp2_with fail
   go_ret
   rw [hh.out]
   exact ⟨rfl, rfl⟩
  case false =>
   cases h1 : s.toList == [45]
   case true =>
    have hh := hid (show binT s a a = .ok a by unfold binT; rw [p0, p1]; simp [h0, h1])
    clear p0 p1
    go_enter Tryz.func119, Tryz.ntmps119
    go_wp2_with fail
    refine c1.out.mono ?_
    rintro e w2 ⟨rfl, hw⟩
    subst w2
    clear c1
    go_wp2_with fail
    go_ret
    rw [hh.out]
    exact ⟨rfl, rfl⟩
   case false =>
    cases h2 : s.toList == [42]
    case true =>
     have hh := hid (show binT s a a = .ok a by unfold binT; rw [p0, p1]; simp [h0, h1, h2])
     clear p0 p1
     go_enter Tryz.func119, Tryz.ntmps119
     go_wp2_with fail
     refine c1.out.mono ?_
     rintro e w2 ⟨rfl, hw⟩
     subst w2
     clear c1
     go_wp2_with fail
     go_ret
     rw [hh.out]
     exact ⟨rfl, rfl⟩
    case false =>
     cases h3 : s.toList == [47]
     case true =>
      have hh := hid (show binT s a a = .ok a by unfold binT; rw [p0, p1]; simp [h0, h1, h2, h3])
      clear p0 p1
      go_enter Tryz.func119, Tryz.ntmps119
      go_wp2_with fail
      refine c1.out.mono ?_
      rintro e w2 ⟨rfl, hw⟩
      subst w2
      clear c1
      go_wp2_with fail
      go_ret
      rw [hh.out]
      exact ⟨rfl, rfl⟩
     case false =>
      cases h4 : s.toList == [61, 61]
      case true =>
       have hh := hid (show binT s a a = .ok 1 by unfold binT; rw [p0, p1]; simp [h0, h1, h2, h3, h4])
       clear p0 p1
       go_enter Tryz.func119, Tryz.ntmps119
       go_wp2_with fail
       refine c1.out.mono ?_
       rintro e w2 ⟨rfl, hw⟩
       subst w2
       clear c1
       go_wp2_with fail
       go_ret
       rw [hh.out]
       exact ⟨rfl, rfl⟩
      case false =>
       cases h5 : s.toList == [33, 61]
       case true =>
        have hh := hid (show binT s a a = .ok 1 by unfold binT; rw [p0, p1]; simp [h0, h1, h2, h3, h4, h5])
        clear p0 p1
        go_enter Tryz.func119, Tryz.ntmps119
        go_wp2_with fail
        refine c1.out.mono ?_
        rintro e w2 ⟨rfl, hw⟩
        subst w2
        clear c1
        go_wp2_with fail
        go_ret
        rw [hh.out]
        exact ⟨rfl, rfl⟩
       case false =>
        cases h6 : s.toList == [60]
        case true =>
         have hh := hid (show binT s a a = .ok 1 by unfold binT; rw [p0, p1]; simp [h0, h1, h2, h3, h4, h5, h6])
         clear p0 p1
         go_enter Tryz.func119, Tryz.ntmps119
         go_wp2_with fail
         refine c1.out.mono ?_
         rintro e w2 ⟨rfl, hw⟩
         subst w2
         clear c1
         go_wp2_with fail
         go_ret
         rw [hh.out]
         exact ⟨rfl, rfl⟩
        case false =>
         cases h7 : s.toList == [60, 61]
         case true =>
          have hh := hid (show binT s a a = .ok 1 by unfold binT; rw [p0, p1]; simp [h0, h1, h2, h3, h4, h5, h6, h7])
          clear p0 p1
          go_enter Tryz.func119, Tryz.ntmps119
          go_wp2_with fail
          refine c1.out.mono ?_
          rintro e w2 ⟨rfl, hw⟩
          subst w2
          clear c1
          go_wp2_with fail
          go_ret
          rw [hh.out]
          exact ⟨rfl, rfl⟩
         case false =>
          cases h8 : s.toList == [62]
          case true =>
           have hh := hid (show binT s a a = .ok 1 by unfold binT; rw [p0, p1]; simp [h0, h1, h2, h3, h4, h5, h6, h7, h8])
           clear p0 p1
           go_enter Tryz.func119, Tryz.ntmps119
           go_wp2_with fail
           refine c1.out.mono ?_
           rintro e w2 ⟨rfl, hw⟩
           subst w2
           clear c1
           go_wp2_with fail
           go_ret
           rw [hh.out]
           exact ⟨rfl, rfl⟩
          case false =>
           cases h9 : s.toList == [62, 61]
           case true =>
            have hh := hid (show binT s a a = .ok 1 by unfold binT; rw [p0, p1]; simp [h0, h1, h2, h3, h4, h5, h6, h7, h8, h9])
            clear p0 p1
            go_enter Tryz.func119, Tryz.ntmps119
            go_wp2_with fail
            refine c1.out.mono ?_
            rintro e w2 ⟨rfl, hw⟩
            subst w2
            clear c1
            go_wp2_with fail
            go_ret
            rw [hh.out]
            exact ⟨rfl, rfl⟩
           case false =>
            by_cases hA : a = 1
            ·subst a
             have hh := hid (show binT s 1 1 = .ok 1 by unfold binT; simp)
             clear p0 p1
             have c2 := c1
             go_enter Tryz.func119, Tryz.ntmps119
             go_wp2_with fail
             refine c1.out.mono ?_
             rintro e w2 ⟨rfl, hw⟩
             subst w2
             clear c1
             go_wp2_with fail
             refine c2.out.mono ?_
             rintro e w2 ⟨rfl, hw⟩
             subst w2
             clear c2
             go_wp2_with fail
             go_ret
             rw [hh.out]
             exact ⟨rfl, rfl⟩
            ·have hh := hid (show binT s a a = .error 292 by unfold binT; rw [p0, p1]; simp [hA, h0, h1, h2, h3, h4, h5, h6, h7, h8, h9])
             clear p0 p1
             have c2 := hid (ask_n 292 w)
             go_enter Tryz.func119, Tryz.ntmps119
             go_wp2_with fail
             refine c1.out.mono ?_
             rintro e w2 ⟨rfl, hw⟩
             subst w2
             clear c1
             go_wp2_with fail
             (try rw [show (a == 1) = false by simpa using hA]); refine c2.out.mono ?_
             rintro e w2 ⟨rfl, hw⟩
             subst w2
             clear c2
             go_wp2_with fail
             refine bp_panic ?_
             rw [hh.out]
             exact ⟨rfl, rfl⟩
 ·have hh := hid (show binT s a b = .error 292 by unfold binT; rw [if_pos hab])
  have c1 := hid (ask_n 292 w)
  go_enter Tryz.func119, Tryz.ntmps119
  go_wp2_with fail
  (try rw [show (a == b) = false by simpa using hab]); refine c1.out.mono ?_
  rintro e w2 ⟨rfl, hw⟩
  subst w2
  clear c1
  go_wp2_with fail
  refine bp_panic ?_
  rw [hh.out]
  exact ⟨rfl, rfl⟩
def signT (sign : ByteArray) (t : Int) : Except Int Unit :=
 if sign.toList == [] then .ok () else match binT sign t t with
  | .error e => .error e
  | .ok _ => .ok ()
theorem signed172 (s : ByteArray) (t : Int) (w : World) : Calls Tryz.prog 172 #[.string s, .int .u8 t] w fun e w' => e = outU (signT s t) ∧ w' = w := by
 have c1 := hid (binary119 s t t w)
 cases h0 : s.toList == []
 ·cases hb : binT s t t with
  | ok a =>
   have hh := hid (show signT s t = .ok () by unfold signT; rw [h0, hb]; rfl)
   rw [hb] at c1
   go_enter Tryz.func172, Tryz.ntmps172
   go_wp2_with fail
   refine c1.out.mono ?_
   rintro e w2 ⟨rfl, hw⟩
   subst w2
   go_wp2_with fail
   go_end0
   rw [hh.out]
   exact ⟨rfl, rfl⟩
  | error a =>
   have hh := hid (show signT s t = .error a by unfold signT; rw [h0, hb]; rfl)
   rw [hb] at c1
   go_enter Tryz.func172, Tryz.ntmps172
   go_wp2_with fail
   refine c1.out.mono ?_
   rintro e w2 ⟨he, hw⟩
   obtain rfl : e = flt a := he
   subst w2
   go_wp2_with fail
   refine bp_panic ?_
   rw [hh.out]
   exact ⟨rfl, rfl⟩
 ·have hh := hid (show signT s t = .ok () by unfold signT; rw [h0]; rfl)
  go_enter Tryz.func172, Tryz.ntmps172
  go_wp2_with fail
  go_end0
  rw [hh.out]
  exact ⟨rfl, rfl⟩
end
section
def KsR (w : World) (ks : List Int) (v : Value) : Prop := ∃ B, w.ownsRow B 40 1 v ks.length (ks.map (Value.int .u8))
theorem KsR.open {w : World} {ks : List Int} {v : Value} (h : KsR w ks v) : ∃ ka kb kc, v = .slice ka ks.length kc ∧ (ks.length = 0 ∨ ka = some ⟨kb, 0, none⟩) ∧ ∀ i (hi : i < ks.length), w.cell? ⟨kb, i, none⟩ = some (.int .u8 ks[i]) := by
 obtain ⟨B, h⟩ := h
 have h2 := h.2
 rcases h2 with ⟨rfl, hn⟩ | ⟨g, cap, cur, rfl, _⟩
 ·exact ⟨none, 0, 0, by rw [hn], .inl hn, fun i hi => by omega⟩
 ·refine ⟨_, g, cap, rfl, .inr rfl, fun i hi => ?_⟩
  have := h.cellAt i (by omega)
  rw [this]
  simp [hi]
theorem KsR.mono {w w' : World} {ks : List Int} {v : Value} (h : KsR w ks v) (hb : Below w.heap.size w w') : KsR w' ks v := by
 obtain ⟨B, h⟩ := h
 exact ⟨B, h.kept (row := none) ⟨hb.os, hb.tape, hb.output, hb.size, fun k hk _ => hb.block k hk⟩ (by cases hq : v.ownBlock; exact .inl rfl; exact .inr (by simp))⟩
def parT (ps : List PW) (ks : List Int) : Bool := (ps.zip ks).all fun x => x.1.2 == x.2
def callT (cs : List (ByteArray × Sig)) (s : ByteArray) (ks : List Int) : Except Int Int :=
 match getM s cs with
 | none => .error 291
 | some g => if g.params.length ≠ ks.length then .error 293 else if parT g.params ks then .ok g.type else .error 292
theorem parT_yes {ps : List PW} {ks : List Int} (hl : ps.length = ks.length) (h : ∀ i (h1 : i < ps.length) (h2 : i < ks.length), ps[i].2 = ks[i]) : parT ps ks = true := by
 unfold parT
 rw [List.all_eq_true]
 intro x hx
 obtain ⟨i, hi, rfl⟩ := List.getElem_of_mem hx
 simp only [List.getElem_zip, beq_iff_eq]
 have hi2 : i < min ps.length ks.length := by simpa using hi
 exact h i (by omega) (by omega)
theorem parT_no {ps : List PW} {ks : List Int} {i : Nat} (h1 : i < ps.length) (h2 : i < ks.length) (h : ¬ ps[i].2 = ks[i]) : parT ps ks = false := by
 unfold parT
 rw [List.all_eq_false]
 refine ⟨(ps[i], ks[i]), ?_, by simpa using h⟩
 rw [List.mem_iff_getElem]
 exact ⟨i, by simp; omega, by simp⟩
theorem call211 (s : ByteArray) (ks : List Int) (kv : Value) (vs : List (ByteArray × (Int × Int))) (cs : List (ByteArray × Sig)) (C : Nat) (ss : List Scope) (vb cb g cap : Nat) (ms : List Nat) (w : World) (h : CkR w vs cs C ss vb cb g cap ms) (hk : KsR w ks kv)
  (hp : ∀ x, getM s cs = some x → x.params.length ≤ 100000000) (hks : ks.length ≤ 100000000) :
  Calls Tryz.prog 211 #[.pointer (some ⟨C, 0, none⟩), .string s, kv] w fun e w' => e = outT (callT cs s ks) ∧ Below w.heap.size w w' := by
 have c1 := h.c1
 have HV := hid (h.nm.call s)
 obtain ⟨ka, kb, kc, rfl, hka, hkc⟩ := hk.open
 have HK := hid hkc
 clear h hk hkc
 rcases HV.out with ⟨e1, l1⟩ | ⟨y, pa, pc, e1, hsl, l1⟩
 ·have hh := hid (show callT cs s ks = .error 291 by unfold callT; rw [e1])
  have c5 := hid (ask_n 291 (w.alloc (.cells #[.slice none 0 0, .int .u8 0, .int .i64 0, .int .i64 0] 114)))
  clear HV e1 hka
  go_enter Tryz.func211, Tryz.ntmps211
  go_wp2_with fail
  refine c5.out.mono ?_
  rintro e w2 ⟨rfl, hw⟩
  subst w2
  clear c5
  go_wp2_with fail
  refine bp_panic ?_
  rw [hh.out]
  exact ⟨rfl, by (repeat (first | exact Below.refl _ _ | refine Below.drew ?_ | refine Below.alloc ?_ (by simp <;> omega) _))⟩
 ·have hpl := hp y e1
  obtain ⟨ps, ty, ho, fn⟩ := y
  simp only [] at hpl l1 hsl
  have c5 := hid (ask_y 291 (w.alloc (.cells #[.slice pa ps.length pc, .int .u8 ty, .int .i64 ho, .int .i64 fn] 114)))
  obtain ⟨ka2, qb, qo, kc2, hq, hqa, hqi⟩ := hsl
  cases hq
  have HQ := hid hqi
  clear HV hqi
  by_cases hlen : ps.length = ks.length
  ·have c6 := hid (ask_y 293 (w.alloc (.cells #[.slice pa ps.length pc, .int .u8 ty, .int .i64 ho, .int .i64 fn] 114)))
   have hN := hid hlen
   have E1 := hid e1
   obtain ⟨n, hn⟩ : ∃ n, n = ks.length := ⟨_, rfl⟩
   have hn2 : ps.length = n := by omega
   have hM := hid hn
   have hM2 := hid hn2
   rw [hn2] at hpl hqa c5 c6 l1
   rw [← hn] at hka hks
   rw [← hn]
   clear e1 hlen hn hn2
   go_enter Tryz.func211, Tryz.ntmps211
   go_wp2_with fail
   refine c5.out.mono ?_
   rintro e w2 ⟨rfl, hw⟩
   subst w2
   clear c5
   go_wp2_with fail
   refine c6.out.mono ?_
   rintro e w2 ⟨rfl, hw⟩
   subst w2
   clear c6
   go_wp2_with fail
   go_loopw [33] (fun y wr => ∃ k : Nat, y = .int .i64 k ∧ k ≤ n ∧ (∀ i (h1 : i < ps.length) (h2 : i < ks.length), i < k → ps[i].2 = ks[i]) ∧ Below w.heap.size w wr ∧ Bx wr w.heap.size #[.slice pa n pc, .int .u8 ty, .int .i64 ho, .int .i64 fn] 114) (fun y _ => n - (intOf y).toNat)
   case atStart => exact ⟨0, rfl, Nat.zero_le _, fun _ _ _ h => by omega, by (repeat (first | exact Below.refl _ _ | refine Below.drew ?_ | refine Below.alloc ?_ (by simp <;> omega) _)), Bx.new _ _ _⟩
   case round =>
    obtain ⟨k, rfl, hk, hpre, hb, hbx⟩ := hrel
    have PRE := hid hpre
    have BX := hid hbx
    have HB := hid hb
    clear hpre hbx hb
    by_cases hlt : k < n
    ·have h1 : k < ps.length := by have := hM2.out; omega
     have h2 : k < ks.length := by have := hM.out; omega
     have x1 := HQ.out k h1
     have x2 := cell_on (HK.out k h2) HB.out
     have x3 := cell_on x1.1 HB.out
     have x4 := cell_on x1.2 HB.out
     have hpa : pa = some ⟨qb, qo, none⟩ := by rcases hqa with q | q; (· omega); (· exact q)
     have hkv : ka = some ⟨kb, 0, none⟩ := by rcases hka with q | q; (· omega); (· exact q)
     subst hpa hkv
     have PRE1 := hid (fun (hq : ps[k].2 = ks[k]) (i : Nat) (h1 : i < ps.length) (h2 : i < ks.length) (h3 : i < k + 1) => by
      rcases Nat.lt_or_eq_of_le (Nat.le_of_lt_succ h3) with q | q
      ·exact PRE.out i h1 h2 q
      ·subst i; exact hq : ps[k].2 = ks[k] → ∀ i (h1 : i < ps.length) (h2 : i < ks.length), i < k + 1 → ps[i].2 = ks[i])
     have NO := hid (fun (hq : ¬ ps[k].2 = ks[k]) => parT_no h1 h2 hq)
     generalize ps[k] = pk at x3 x4 PRE1 NO
     generalize ks[k] = kk at x2 PRE1 NO
     obtain ⟨nm, pt⟩ := pk
     simp only [] at x3 x4 PRE1 NO
     have bel1 := fun {w2 : World} (h : Below (wr.alloc (.cells #[.string nm, .int .u8 pt] 46)).heap.size (wr.alloc (.cells #[.string nm, .int .u8 pt] 46)) w2) => ((Below.refl wr.heap.size wr).alloc (Nat.le_refl _) (.cells #[.string nm, .int .u8 pt] 46)).trans (h.mono (by simp))
     have bx1 := fun {w2 : World} (h : Below (wr.alloc (.cells #[.string nm, .int .u8 pt] 46)).heap.size (wr.alloc (.cells #[.string nm, .int .u8 pt] 46)) w2) => ((Bx.new wr #[.string nm, .int .u8 pt] 46).on (grown_of_below h) (by simp)).cell
     clear x1
     go_wp2_with fail
     refine wp_region_held_drew (S := (Below (wr.alloc (.cells #[.string nm, .int .u8 pt] 46)).heap.size (wr.alloc (.cells #[.string nm, .int .u8 pt] 46)))) (by kernel_rfl) (Below.refl _ _).drew (fun hHeld => ?_)
     refine tk 0 ?_
     refine tk 1 ?_ (hy := by intro w' hSw; have q1 := bx1 hSw 1; simp at q1; go_simp; (try with_reducible rfl))
     refine tk 2 ?_
     refine tk 3 ?_
     refine tk 4 ?_
     refine tk 5 ?_ (hy := by intro w' hSw; have q2 := cell_on x2 (bel1 hSw); go_simp; (try with_reducible rfl))
     refine tk 6 ?_
     refine tr 7 fun K hK => ?_
     go_simp
     go_at_call 146
     by_cases hpk : pt = kk
     ·subst kk
      have PRE2 := hid (PRE1.out rfl)
      have c7 := hid (ask_y 292 (wr.alloc (.cells #[.string nm, .int .u8 pt] 46)).drew)
      rw [show (pt == pt) = true by simp]
      refine c7.out.mono ?_
      rintro e w2 ⟨rfl, hw⟩
      subst w2
      have hk := (Below.refl (wr.alloc (.cells #[.string nm, .int .u8 pt] 46)).heap.size (wr.alloc (.cells #[.string nm, .int .u8 pt] 46))).drew
      clear hHeld c7
      go_wp2_with fail
      refine hK.out _ _ hk (fun hHeld => ?_)
      clear hK K hk
      try simp only [tpa, tpb, tpc, tpd, tpe]
      refine td ?_
      go_wp2_with fail
      exact ⟨⟨k + 1, rfl, by omega, PRE2.out, HB.out.trans ((bel1 ((Below.refl _ _).drew)).mono HB.out.size), (BX.out.on (grown_of_below (bel1 ((Below.refl _ _).drew))) (by simp))⟩, by simp only [intOf]; omega⟩
     ·have c7 := hid (ask_n 292 (wr.alloc (.cells #[.string nm, .int .u8 pt] 46)).drew)
      have hh := hid (show callT cs s ks = .error 292 by unfold callT; rw [E1.out]; simp [hN.out, NO.out hpk])
      rw [show (pt == kk) = false by simpa using hpk]
      refine c7.out.mono ?_
      rintro e w2 ⟨rfl, hw⟩
      subst w2
      clear hHeld c7 hK
      go_wp2_with fail
      refine bp_panic ?_
      rw [hh.out]
      exact ⟨rfl, HB.out.trans ((bel1 ((Below.refl _ _).drew)).mono HB.out.size)⟩
    ·have hke : k = n := by omega
     subst k
     have hh := hid (show callT cs s ks = .ok ty by unfold callT; rw [E1.out]; simp [hN.out, parT_yes hN.out (fun i h1 h2 => PRE.out i h1 h2 (by have := hM2.out; omega))])
     have p1 := BX.out.cell 1
     simp at p1
     clear hN E1 hM hM2 PRE
     go_wp2_with fail
     go_ret
     rw [hh.out]
     exact ⟨rfl, HB.out⟩
  ·have hh := hid (show callT cs s ks = .error 293 by unfold callT; rw [e1]; simp [hlen])
   have c6 := hid (ask_n 293 (w.alloc (.cells #[.slice pa ps.length pc, .int .u8 ty, .int .i64 ho, .int .i64 fn] 114)))
   clear e1
   go_enter Tryz.func211, Tryz.ntmps211
   go_wp2_with fail
   refine c5.out.mono ?_
   rintro e w2 ⟨rfl, hw⟩
   subst w2
   clear c5
   go_wp2_with fail
   rw [show (((ps.length : Nat) : Int) == ((ks.length : Nat) : Int)) = false by simp only [beq_eq_false_iff_ne, ne_eq, Int.ofNat_inj]; exact hlen]
   refine c6.out.mono ?_
   rintro e w2 ⟨rfl, hw⟩
   subst w2
   clear c6
   go_wp2_with fail
   refine bp_panic ?_
   rw [hh.out]
   exact ⟨rfl, by (repeat (first | exact Below.refl _ _ | refine Below.drew ?_ | refine Below.alloc ?_ (by simp <;> omega) _))⟩
end
section
open Go.Shelf
def EH.Wf (h : EH) : Prop := (0 ≤ h.word ∧ h.word < 4294967296) ∧ h.name.size ≤ 1048576 ∧ h.sign.size ≤ 1048576
def Exs.Wf : Exs → Prop
 | .nil => True
 | .cons h k r => h.Wf ∧ k.Wf ∧ r.Wf
def okH (h : EH) (n : Nat) : Bool :=
 if h.kind = 1 then bareB 0 h.type h.name h.sign n 0
 else if h.kind = 2 then bareB 0 h.type h.name h.sign n 0 && (finB h.word && decide (h.word < 2147483648))
 else if h.kind = 3 then ((n : Int) == 0) && (bareB h.word h.type ⟨#[]⟩ h.sign n n && nameOk h.name)
 else if h.kind = 4 then ((n : Int) == 1) && (bareB h.word h.type ⟨#[]⟩ h.sign n n && nameOk h.name)
 else if h.kind = 5 then decide ((n : Int) ≤ 15) && (bareB h.word h.type ⟨#[]⟩ h.sign n n && nameOk h.name)
 else if h.kind = 6 then bareB h.word h.type h.name ⟨#[]⟩ n 1 && inList unaL h.sign
 else if h.kind = 7 then bareB h.word h.type h.name ⟨#[]⟩ n 2 && levB h.sign
 else if h.kind = 8 then bareB h.word 0 h.name h.sign n 1 && typeB h.type
 else false
theorem okH_1 (a0 a2 a3 : Int) (a4 a5 : ByteArray) (n : Nat) : okH ⟨a0, 1, a2, a3, a4, a5⟩ n = bareB 0 a3 a4 a5 n 0 := rfl
theorem okH_2 (a0 a2 a3 : Int) (a4 a5 : ByteArray) (n : Nat) : okH ⟨a0, 2, a2, a3, a4, a5⟩ n = (bareB 0 a3 a4 a5 n 0 && (finB a2 && decide (a2 < 2147483648))) := rfl
theorem okH_3 (a0 a2 a3 : Int) (a4 a5 : ByteArray) (n : Nat) : okH ⟨a0, 3, a2, a3, a4, a5⟩ n = (((n : Int) == 0) && (bareB a2 a3 ⟨#[]⟩ a5 n n && nameOk a4)) := rfl
theorem okH_4 (a0 a2 a3 : Int) (a4 a5 : ByteArray) (n : Nat) : okH ⟨a0, 4, a2, a3, a4, a5⟩ n = (((n : Int) == 1) && (bareB a2 a3 ⟨#[]⟩ a5 n n && nameOk a4)) := rfl
theorem okH_5 (a0 a2 a3 : Int) (a4 a5 : ByteArray) (n : Nat) : okH ⟨a0, 5, a2, a3, a4, a5⟩ n = (decide ((n : Int) ≤ 15) && (bareB a2 a3 ⟨#[]⟩ a5 n n && nameOk a4)) := rfl
theorem okH_6 (a0 a2 a3 : Int) (a4 a5 : ByteArray) (n : Nat) : okH ⟨a0, 6, a2, a3, a4, a5⟩ n = (bareB a2 a3 a4 ⟨#[]⟩ n 1 && inList unaL a5) := rfl
theorem okH_7 (a0 a2 a3 : Int) (a4 a5 : ByteArray) (n : Nat) : okH ⟨a0, 7, a2, a3, a4, a5⟩ n = (bareB a2 a3 a4 ⟨#[]⟩ n 2 && levB a5) := rfl
theorem okH_8 (a0 a2 a3 : Int) (a4 a5 : ByteArray) (n : Nat) : okH ⟨a0, 8, a2, a3, a4, a5⟩ n = (bareB a2 0 a4 a5 n 1 && typeB a3) := rfl
theorem okH_0 (a0 a1 a2 a3 : Int) (a4 a5 : ByteArray) (n : Nat) (h : ¬ a1 = 1 ∧ ¬ a1 = 2 ∧ ¬ a1 = 3 ∧ ¬ a1 = 4 ∧ ¬ a1 = 5 ∧ ¬ a1 = 6 ∧ ¬ a1 = 7 ∧ ¬ a1 = 8) : okH ⟨a0, a1, a2, a3, a4, a5⟩ n = false := by
 obtain ⟨h1, h2, h3, h4, h5, h6, h7, h8⟩ := h
 simp only [okH, h1, h2, h3, h4, h5, h6, h7, h8, if_false]
theorem below_own {w wr w2 : World} {o : Obj} (h : Below w.heap.size w wr) (hb : Below (wr.alloc o).heap.size (wr.alloc o) w2) : Below w.heap.size w w2 := (h.alloc h.size o).trans (hb.mono (h.alloc h.size o).size)
theorem bx_own {wr w2 : World} {o : Obj} {q : Nat} {cs : Array Value} {t : TypeId} (hX : Bx wr q cs t) (hb : Below (wr.alloc o).heap.size (wr.alloc o) w2) : Bx w2 q cs t := (hX.on (World.grownBy_alloc wr o none) (by simp)).on (grown_of_below hb) (by simp)
theorem una_in (w : World) : ∀ i (hi : i < unaL.length), (w.alloc (.cells (unaL.map Value.string).toArray 9)).cell? ⟨w.heap.size, i, none⟩ = some (.string unaL[i]) := fun i hi => cell_bx (Bx.new w _ 9) i hi
def okE : Exs → Bool
 | .nil => true
 | .cons h k r => okE k && okH h k.len && okE r
theorem fits45 : ∀ (n : Nat) (t : Int) (h : EH) (kids : Exs) (v : Value) (w : World), kids.sz < n → kids.sz ≤ 100000000 → h.Wf → kids.Wf → SlE w false none kids v →
  Calls Tryz.prog 168 #[aggE t h v] w fun e w' => e = .returned (.bool (okE kids && okH h kids.len)) ∧ Below w.heap.size w w' := by
 intro n
 induction n with
 | zero => intro t h kids v w hn; omega
 | succ n ih =>
  have IH := hid ih
  clear ih
  intro t h kids v w hn hs hwf hkwf hv
  obtain ⟨ka, b, off, c, rfl, hka, hin⟩ := hv
  have hl := kids.len_le
  have hS := hid (And.intro hn hs)
  have hI := hid hin
  have hkb : kids.len ≤ 100000000 := by omega
  have hW := hid hwf
  have hKW := hid hkwf
  obtain ⟨a0, a1, a2, a3, a4, a5⟩ := h
  obtain ⟨len, hlen⟩ : ∃ m, m = kids.len := ⟨_, rfl⟩
  rw [← hlen] at hka hl hkb ⊢
  have hLen := hid hlen
  clear hn hs hin hwf hkwf hlen
  have hX0 := hid (Bx.new w #[.int .i64 t, .int .u8 a1, .int .u32 a2, .int .u8 a3, .string a4, .string a5, .slice ka len c] 134)
  have hB0 := hid ((Below.refl w.heap.size w).alloc (Nat.le_refl _) (.cells #[.int .i64 t, .int .u8 a1, .int .u32 a2, .int .u8 a3, .string a4, .string a5, .slice ka len c] 134))
  go_enter Tryz.func168, Tryz.ntmps168
  go_wp2_with fail
  go_loopw [2, 11] (fun z i wr => ∃ (k : Nat) (r : Exs), z = .bool false ∧ k + r.len = len ∧ i = .int .i64 k ∧ ExsIn w false none r b off k ∧ r.sz ≤ kids.sz ∧ r.Wf ∧ okE kids = okE r ∧ Bx wr w.heap.size #[.int .i64 t, .int .u8 a1, .int .u32 a2, .int .u8 a3, .string a4, .string a5, .slice ka len c] 134 ∧ Below w.heap.size w wr) (fun _ i _ => len - (intOf i).toNat)
  case atStart => exact ⟨0, kids, rfl, by have := hLen.out; omega, rfl, hI.out, Nat.le_refl _, hKW.out, rfl, hX0.out, hB0.out⟩
  case round =>
   clear hI hX0 hB0
   obtain ⟨k, r, rfl, hk, rfl, hr, hz, hrw, hok, hbx, hb⟩ := hrel
   have hX := hid (And.intro hbx hb)
   have hOK := hid hok
   cases r with
   | nil =>
    simp only [Exs.len, Nat.add_zero] at hk
    subst k
    clear hr hz hrw hok hbx hb
    have hkids : Hid (okE kids = true) := hOK
    have p0 := hX.out.1.cell 0
    have p1 := hX.out.1.cell 1
    have p2 := hX.out.1.cell 2
    have p3 := hX.out.1.cell 3
    have p4 := hX.out.1.cell 4
    have p5 := hX.out.1.cell 5
    have p6 := hX.out.1.cell 6
    have pl := hX.out.1.lt
    simp at p0 p1 p2 p3 p4 p5 p6
    by_cases h1 : a1 = 1
    ·subst h1
     go_wp2_with fail
     refine (bare61 t 1 0 a3 a4 a5 ka len c 0 _).mono ?_
     rintro e w2 ⟨rfl, hb2⟩
     have hX2 := hid (bx_own hX.out.1 hb2)
     have hB2 := hid (below_own hX.out.2 hb2)
     clear hb2 p0 p1 p2 p3 p4 p5 p6 pl
     go_wp2_with fail
     go_ret
     exact ⟨ret_bool (by rw [hkids.out]; simp only [okH_1, Bool.true_and, Bool.false_and]), hB2.out⟩
    by_cases h2 : a1 = 2
    ·subst h2
     go_wp2_with fail
     refine (bare61 t 2 0 a3 a4 a5 ka len c 0 _).mono ?_
     rintro e w2 ⟨rfl, hb2⟩
     have hX2 := hid (bx_own hX.out.1 hb2)
     have hB2 := hid (below_own hX.out.2 hb2)
     clear hb2 p0 p1 p2 p3 p4 p5 p6 pl
     have p2 := hX2.out.cell 2
     have p3 := hX2.out.cell 3
     have p4 := hX2.out.cell 4
     have p5 := hX2.out.cell 5
     simp at p2 p3 p4 p5
     cases hbare : bareB 0 a3 a4 a5 len 0
     ·go_wp2_with fail
      go_ret
      exact ⟨ret_bool (by rw [hkids.out]; simp only [okH_2, hbare, Bool.true_and, Bool.false_and]), hB2.out⟩
     have hcf := hid (finite41 a2 hW.out.1 w2)
     go_wp2_with fail
     refine hcf.out.mono ?_
     rintro e w3 ⟨rfl, hw⟩
     subst w3
     cases hf : finB a2
     ·go_wp2_with fail
      go_ret
      exact ⟨ret_bool (by rw [hkids.out]; simp only [okH_2, hbare, hf, Bool.true_and, Bool.false_and]), hB2.out⟩
     go_wp2_with fail
     go_ret
     exact ⟨ret_bool (by rw [hkids.out]; simp only [okH_2, hbare, hf, Bool.true_and, Bool.false_and]), hB2.out⟩
    by_cases h3 : a1 = 3
    ·subst h3
     cases hq : (len : Int) == 0
     ·go_wp2_with fail
      go_ret
      exact ⟨ret_bool (by rw [hkids.out]; simp only [okH_3, hq, Bool.true_and, Bool.false_and]), hX.out.2.alloc hX.out.2.size _⟩
     go_wp2_with fail
     refine (bare61 t 3 a2 a3 ⟨#[]⟩ a5 ka len c len _).mono ?_
     rintro e w2 ⟨rfl, hb2⟩
     have hX2 := hid (bx_own hX.out.1 hb2)
     have hB2 := hid (below_own hX.out.2 hb2)
     clear hb2 p0 p1 p2 p3 p4 p5 p6 pl
     have p2 := hX2.out.cell 2
     have p3 := hX2.out.cell 3
     have p4 := hX2.out.cell 4
     have p5 := hX2.out.cell 5
     simp at p2 p3 p4 p5
     cases hbare : bareB a2 a3 ⟨#[]⟩ a5 len len
     ·go_wp2_with fail
      go_ret
      exact ⟨ret_bool (by rw [hkids.out]; simp only [okH_3, hq, hbare, Bool.true_and, Bool.false_and]), hB2.out⟩
     have hcf := hid (isName29 a4 w2 hW.out.2.1)
     go_wp2_with fail
     refine hcf.out.mono ?_
     rintro e w3 ⟨rfl, hb3⟩
     have hB3 := hid (hB2.out.trans (hb3.mono hB2.out.size))
     clear hb3
     go_wp2_with fail
     go_ret
     exact ⟨ret_bool (by rw [hkids.out]; simp only [okH_3, hq, hbare, Bool.true_and, Bool.false_and]), hB3.out⟩
    by_cases h4 : a1 = 4
    ·subst h4
     cases hq : (len : Int) == 1
     ·go_wp2_with fail
      go_ret
      exact ⟨ret_bool (by rw [hkids.out]; simp only [okH_4, hq, Bool.true_and, Bool.false_and]), hX.out.2.alloc hX.out.2.size _⟩
     go_wp2_with fail
     refine (bare61 t 4 a2 a3 ⟨#[]⟩ a5 ka len c len _).mono ?_
     rintro e w2 ⟨rfl, hb2⟩
     have hX2 := hid (bx_own hX.out.1 hb2)
     have hB2 := hid (below_own hX.out.2 hb2)
     clear hb2 p0 p1 p2 p3 p4 p5 p6 pl
     have p2 := hX2.out.cell 2
     have p3 := hX2.out.cell 3
     have p4 := hX2.out.cell 4
     have p5 := hX2.out.cell 5
     simp at p2 p3 p4 p5
     cases hbare : bareB a2 a3 ⟨#[]⟩ a5 len len
     ·go_wp2_with fail
      go_ret
      exact ⟨ret_bool (by rw [hkids.out]; simp only [okH_4, hq, hbare, Bool.true_and, Bool.false_and]), hB2.out⟩
     have hcf := hid (isName29 a4 w2 hW.out.2.1)
     go_wp2_with fail
     refine hcf.out.mono ?_
     rintro e w3 ⟨rfl, hb3⟩
     have hB3 := hid (hB2.out.trans (hb3.mono hB2.out.size))
     clear hb3
     go_wp2_with fail
     go_ret
     exact ⟨ret_bool (by rw [hkids.out]; simp only [okH_4, hq, hbare, Bool.true_and, Bool.false_and]), hB3.out⟩
    by_cases h5 : a1 = 5
    ·subst h5
     cases hq : decide ((len : Int) ≤ 15)
     ·go_wp2_with fail
      go_ret
      exact ⟨ret_bool (by rw [hkids.out]; simp only [okH_5, hq, Bool.true_and, Bool.false_and]), hX.out.2.alloc hX.out.2.size _⟩
     go_wp2_with fail
     refine (bare61 t 5 a2 a3 ⟨#[]⟩ a5 ka len c len _).mono ?_
     rintro e w2 ⟨rfl, hb2⟩
     have hX2 := hid (bx_own hX.out.1 hb2)
     have hB2 := hid (below_own hX.out.2 hb2)
     clear hb2 p0 p1 p2 p3 p4 p5 p6 pl
     have p2 := hX2.out.cell 2
     have p3 := hX2.out.cell 3
     have p4 := hX2.out.cell 4
     have p5 := hX2.out.cell 5
     simp at p2 p3 p4 p5
     cases hbare : bareB a2 a3 ⟨#[]⟩ a5 len len
     ·go_wp2_with fail
      go_ret
      exact ⟨ret_bool (by rw [hkids.out]; simp only [okH_5, hq, hbare, Bool.true_and, Bool.false_and]), hB2.out⟩
     have hcf := hid (isName29 a4 w2 hW.out.2.1)
     go_wp2_with fail
     refine hcf.out.mono ?_
     rintro e w3 ⟨rfl, hb3⟩
     have hB3 := hid (hB2.out.trans (hb3.mono hB2.out.size))
     clear hb3
     go_wp2_with fail
     go_ret
     exact ⟨ret_bool (by rw [hkids.out]; simp only [okH_5, hq, hbare, Bool.true_and, Bool.false_and]), hB3.out⟩
    by_cases h6 : a1 = 6
    ·subst h6
     go_wp2_with fail
     refine (bare61 t 6 a2 a3 a4 ⟨#[]⟩ ka len c 1 _).mono ?_
     rintro e w2 ⟨rfl, hb2⟩
     have hX2 := hid (bx_own hX.out.1 hb2)
     have hB2 := hid (below_own hX.out.2 hb2)
     clear hb2 p0 p1 p2 p3 p4 p5 p6 pl
     have p2 := hX2.out.cell 2
     have p3 := hX2.out.cell 3
     have p4 := hX2.out.cell 4
     have p5 := hX2.out.cell 5
     simp at p2 p3 p4 p5
     cases hbare : bareB a2 a3 a4 ⟨#[]⟩ len 1
     ·go_wp2_with fail
      go_ret
      exact ⟨ret_bool (by rw [hkids.out]; simp only [okH_6, hbare, Bool.true_and, Bool.false_and]), hB2.out⟩
     have pl2 := hX2.out.lt
     have hcf := hid (contains59 unaL w2.heap.size a5 _ (by decide) (una_in w2))
     go_wp2_with fail
     refine hcf.out.mono ?_
     rintro e w3 ⟨rfl, hw⟩
     subst w3
     go_wp2_with fail
     go_ret
     exact ⟨ret_bool (by rw [hkids.out]; simp only [okH_6, hbare, Bool.true_and, Bool.false_and]), hB2.out.alloc hB2.out.size _⟩
    by_cases h7 : a1 = 7
    ·subst h7
     go_wp2_with fail
     refine (bare61 t 7 a2 a3 a4 ⟨#[]⟩ ka len c 2 _).mono ?_
     rintro e w2 ⟨rfl, hb2⟩
     have hX2 := hid (bx_own hX.out.1 hb2)
     have hB2 := hid (below_own hX.out.2 hb2)
     clear hb2 p0 p1 p2 p3 p4 p5 p6 pl
     have p2 := hX2.out.cell 2
     have p3 := hX2.out.cell 3
     have p4 := hX2.out.cell 4
     have p5 := hX2.out.cell 5
     simp at p2 p3 p4 p5
     cases hbare : bareB a2 a3 a4 ⟨#[]⟩ len 2
     ·go_wp2_with fail
      go_ret
      exact ⟨ret_bool (by rw [hkids.out]; simp only [okH_7, hbare, Bool.true_and, Bool.false_and]), hB2.out⟩
     have hcf := hid (isBinary62 a5 w2)
     go_wp2_with fail
     refine hcf.out.mono ?_
     rintro e w3 ⟨rfl, hb3⟩
     have hB3 := hid (hB2.out.trans (hb3.mono hB2.out.size))
     clear hb3
     go_wp2_with fail
     go_ret
     exact ⟨ret_bool (by rw [hkids.out]; simp only [okH_7, hbare, Bool.true_and, Bool.false_and]), hB3.out⟩
    by_cases h8 : a1 = 8
    ·subst h8
     go_wp2_with fail
     refine (bare61 t 8 a2 0 a4 a5 ka len c 1 _).mono ?_
     rintro e w2 ⟨rfl, hb2⟩
     have hX2 := hid (bx_own hX.out.1 hb2)
     have hB2 := hid (below_own hX.out.2 hb2)
     clear hb2 p0 p1 p2 p3 p4 p5 p6 pl
     have p2 := hX2.out.cell 2
     have p3 := hX2.out.cell 3
     have p4 := hX2.out.cell 4
     have p5 := hX2.out.cell 5
     simp at p2 p3 p4 p5
     cases hbare : bareB a2 0 a4 a5 len 1
     ·go_wp2_with fail
      go_ret
      exact ⟨ret_bool (by rw [hkids.out]; simp only [okH_8, hbare, Bool.true_and, Bool.false_and]), hB2.out⟩
     have hcf := hid (isType30 a3 w2)
     go_wp2_with fail
     refine hcf.out.mono ?_
     rintro e w3 ⟨rfl, hw⟩
     subst w3
     go_wp2_with fail
     go_ret
     exact ⟨ret_bool (by rw [hkids.out]; simp only [okH_8, hbare, Bool.true_and, Bool.false_and]), hB2.out⟩
    have q1 : (a1 == 1) = false := by simpa using h1
    have q2 : (a1 == 2) = false := by simpa using h2
    have q3 : (a1 == 3) = false := by simpa using h3
    have q4 : (a1 == 4) = false := by simpa using h4
    have q5 : (a1 == 5) = false := by simpa using h5
    have q6 : (a1 == 6) = false := by simpa using h6
    have q7 : (a1 == 7) = false := by simpa using h7
    have q8 : (a1 == 8) = false := by simpa using h8
    have hnone := hid (okH_0 t a1 a2 a3 a4 a5 len ⟨h1, h2, h3, h4, h5, h6, h7, h8⟩)
    clear h1 h2 h3 h4 h5 h6 h7 h8
    go_wp2_with fail
    go_ret
    exact ⟨ret_bool (by rw [hkids.out]; exact hnone.out.symm), hX.out.2.alloc hX.out.2.size _⟩
   | cons h' kids' rest =>
    simp only [Exs.len, Exs.sz] at hk hz
    obtain ⟨hw1, hw2, hw3⟩ := hrw
    obtain ⟨⟨⟨t', y0, _⟩, y1, y2, y3, y4, y5⟩, ⟨u, y6, hu⟩, hR⟩ := hr.cons
    have x0 := cell_on y0 hb
    have x1 := cell_on y1 hb
    have x2 := cell_on y2 hb
    have x3 := cell_on y3 hb
    have x4 := cell_on y4 hb
    have x5 := cell_on y5 hb
    have x6 := cell_on y6 hb
    have hkk : k < len := by omega
    have hka2 : ka = some ⟨b, off, none⟩ := by rcases hka with q | q; (· omega); (· exact q.1)
    subst hka2
    obtain ⟨ua, uc, rfl⟩ : ∃ a c, u = .slice a kids'.len c := by obtain ⟨a, _, _, c, e, _⟩ := hu; exact ⟨a, c, e⟩
    have hCall := hid (fun w2 (hb2 : Below wr.heap.size wr w2) => IH.out t' h' kids' (.slice ua kids'.len uc) w2 (by have := hS.out; omega) (by have := hS.out; omega) hw1 hw2 (hu.mono (hb.trans (hb2.mono hb.size))))
    have hRR := hid (And.intro hR (And.intro hz hw3))
    have hal := hid ((Below.refl wr.heap.size wr).alloc (Nat.le_refl _) (.cells #[.int .i64 t', .int .u8 h'.kind, .int .u32 h'.word, .int .u8 h'.type, .string h'.name, .string h'.sign, .slice ua kids'.len uc] 134))
    clear hka hr hu hR hz hb y0 y1 y2 y3 y4 y5 y6 hbx hok hw1 hw2 hw3
    go_wp2_with fail
    refine (hCall.out _ hal.out).mono ?_
    rintro e w2 ⟨rfl, hb2⟩
    have hX2 := hid (And.intro (hX.out.1.on (grown_of_below (hal.out.trans (hb2.mono (by simp)))) (by simp)) (hX.out.2.trans ((hal.out.trans (hb2.mono (by simp))).mono hX.out.2.size)))
    clear hb2 hCall x0 x1 x2 x3 x4 x5 x6 hal
    cases hh : okE kids' && okH h' kids'.len
    ·have hE : Hid (okE kids = false) := hid (by rw [hOK.out]; simp only [okE, hh]; rfl)
     go_wp2_with fail
     go_ret
     exact ⟨ret_bool (by rw [hE.out]; rfl), hX2.out.2⟩
    ·have hE : Hid (okE kids = okE rest) := hid (by rw [hOK.out]; simp only [okE, hh]; rfl)
     go_wp2_with fail
     go_roundw
     case rel => exact ⟨k + 1, rest, rfl, by omega, by go_num, hRR.out.1, by have := hRR.out.2.1; omega, hRR.out.2.2, hE.out, hX2.out.1, hX2.out.2⟩
     case measure => simp [intOf]; omega
end
section
open Go.Shelf
end
section
abbrev aggS (t : Int) (h : SH) (v5 v6 v7 : Value) : Value := .agg #[.int .i64 t, .int .u8 h.kind, .string h.name, .int .u8 h.type, .string h.sign, v5, v6, v7]
end
end Go.Proofs.YtlabadkfkbenoaaGreatDoor
