/- Walks and plain laws, merged: ChkD SenD. No condition. -/
import Derived.Test.YtlabadkfkbenoaaGreatDoorProg
import Derived.Test.YtlabadkfkbenoaaGreatDoorKn06
import Derived.Test.YtlabadkfkbenoaaGreatDoorKn07
import Derived.Test.YtlabadkfkbenoaaGreatDoorKn03
namespace Go.Proofs.YtlabadkfkbenoaaGreatDoor
open Go.RowKit
set_option linter.unusedVariables false
set_option linter.unusedSimpArgs false
set_option maxRecDepth 100000
section
open Go.Shelf
def typeB (t : Int) : Bool := t == 1 || t == 2
theorem isType30 (t : Int) (w : World) : Calls Tryz.prog 135 #[.int .u8 t] w fun e w' => e = .returned (.bool (typeB t)) ∧ w' = w := by
 go_enter Tryz.func135, Tryz.ntmps135
 cases h1 : t == 1
 ·cases h2 : t == 2
  ·go_wp2_with fail
   go_ret
   exact ⟨ret_bool (by simp only [typeB, h1, h2]; rfl), rfl⟩
  ·go_wp2_with fail
   go_ret
   exact ⟨ret_bool (by simp only [typeB, h1, h2]; rfl), rfl⟩
 ·go_wp2_with fail
  go_ret
  exact ⟨ret_bool (by simp only [typeB, h1]; rfl), rfl⟩
def finB (x : Int) : Bool := x / 8388608 % 256 != 255
theorem nat_expo (a : Nat) : a &&& 2139095040 = (a / 8388608 % 256) * 8388608 := by
 have h1 : (2139095040 : Nat) = 255 <<< 23 := by decide
 have h2 : a / 8388608 % 256 = (a >>> 23) &&& 255 := by
  rw [Nat.shiftRight_eq_div_pow]
  exact (Nat.and_two_pow_sub_one_eq_mod _ 8).symm
 have h3 : ∀ b : Nat, b * 8388608 = b <<< 23 := fun b => by rw [Nat.shiftLeft_eq]
 rw [h2, h3, h1]
 apply Nat.eq_of_testBit_eq
 intro i
 simp only [Nat.testBit_and, Nat.testBit_shiftLeft, Nat.testBit_shiftRight]
 by_cases hi : 23 ≤ i
 ·simp [hi, show 23 + (i - 23) = i by omega]
 ·simp [hi]
theorem and_expo (x : Int) (hx : 0 ≤ x ∧ x < 4294967296) : (bits BinOp.and IntKind.u32 x 2139095040 != 2139095040) = finB x := by
 obtain ⟨a, rfl⟩ := Int.eq_ofNat_of_zero_le hx.1
 have h1 : (BitVec.ofInt 32 (a : Int)).toNat = a := by
  rw [BitVec.ofInt_natCast, BitVec.toNat_ofNat]; exact Nat.mod_eq_of_lt (by omega)
 have h2 : (BitVec.ofInt 32 2139095040).toNat = 2139095040 := by decide
 have e : bits BinOp.and .u32 (a : Int) 2139095040 = ((a &&& 2139095040 : Nat) : Int) := by
  show IntKind.u32.wrap ((BitVec.ofInt 32 (a : Int) &&& BitVec.ofInt 32 2139095040).toNat : Int) = _
  rw [BitVec.toNat_and, h1, h2]
  have := Nat.and_le_left (n := a) (m := 2139095040)
  simp only [IntKind.wrap, IntKind.bits, IntKind.signed]
  simp
  omega
 rw [e, nat_expo]
 unfold finB
 rw [Bool.eq_iff_iff]
 simp
 omega
theorem finite41 (x : Int) (hx : 0 ≤ x ∧ x < 4294967296) (w : World) : Calls Tryz.prog 164 #[.int .u32 x] w fun e w' => e = .returned (.bool (finB x)) ∧ w' = w := by
 go_enter Tryz.func164, Tryz.ntmps164
 obtain ⟨hx1, hx2⟩ := hx
 go_wp2_with fail
 go_ret
 exact ⟨ret_bool (and_expo x ⟨hx1, hx2⟩), rfl⟩
open Go.Shelf
def bareB (word type : Int) (name sign : ByteArray) (n k : Nat) : Bool := word == 0 && (type == 0 && (name.toList.isEmpty && (sign.toList.isEmpty && ((n : Int) == (k : Int)))))
def plainS (name : ByteArray) (type : Int) (sign : ByteArray) (n k nb ne : Nat) : Bool := name.toList.isEmpty && (type == 0 && (sign.toList.isEmpty && (((n : Int) == (k : Int)) && (((nb : Int) == 0) && ((ne : Int) == 0)))))
set_option maxHeartbeats 1000000 in
theorem bare61 (a0 a1 a2 a3 : Int) (a4 a5 : ByteArray) (ka : Option Addr) (n c k : Nat) (w : World) :
  Calls Tryz.prog 209 #[.agg #[.int .i64 a0, .int .u8 a1, .int .u32 a2, .int .u8 a3, .string a4, .string a5, .slice ka n c], .int .i64 k] w fun e w' => e = .returned (.bool (bareB a2 a3 a4 a5 n k)) ∧ Below w.heap.size w w' := by
 have hB := hid ((Below.refl w.heap.size w).alloc (Nat.le_refl _) (.cells #[.int .i64 a0, .int .u8 a1, .int .u32 a2, .int .u8 a3, .string a4, .string a5, .slice ka n c] 134))
 go_enter Tryz.func209, Tryz.ntmps209
 cases h2 : a2 == 0
 ·go_wp2_with fail
  go_ret
  exact ⟨ret_bool (by simp only [bareB, h2, Bool.true_and, Bool.false_and]), hB.out⟩
 cases h3 : a3 == 0
 ·go_wp2_with fail
  go_ret
  exact ⟨ret_bool (by simp only [bareB, h2, h3, Bool.true_and, Bool.false_and]), hB.out⟩
 cases h4 : a4.toList.isEmpty
 ·go_wp2_with fail
  go_ret
  exact ⟨ret_bool (by simp only [bareB, h2, h3, h4, Bool.true_and, Bool.false_and]), hB.out⟩
 cases h5 : a5.toList.isEmpty
 ·go_wp2_with fail
  go_ret
  exact ⟨ret_bool (by simp only [bareB, h2, h3, h4, h5, Bool.true_and, Bool.false_and]), hB.out⟩
 cases h6 : (n : Int) == (k : Int)
 ·go_wp2_with fail
  go_ret
  exact ⟨ret_bool (by simp only [bareB, h2, h3, h4, h5, h6, Bool.true_and, Bool.false_and]), hB.out⟩
 go_wp2_with fail
 go_ret
 exact ⟨ret_bool (by simp only [bareB, h2, h3, h4, h5, h6, Bool.true_and]), hB.out⟩
set_option maxHeartbeats 1000000 in
theorem plain58 (a0 a1 : Int) (a2 : ByteArray) (a3 : Int) (a4 : ByteArray) (xa ba ea : Option Addr) (n xc nb bc ne ec k : Nat) (w : World) :
  Calls Tryz.prog 206 #[.agg #[.int .i64 a0, .int .u8 a1, .string a2, .int .u8 a3, .string a4, .slice xa n xc, .slice ba nb bc, .slice ea ne ec], .int .i64 k] w fun e w' => e = .returned (.bool (plainS a2 a3 a4 n k nb ne)) ∧ Below w.heap.size w w' := by
 have hB := hid ((Below.refl w.heap.size w).alloc (Nat.le_refl _) (.cells #[.int .i64 a0, .int .u8 a1, .string a2, .int .u8 a3, .string a4, .slice xa n xc, .slice ba nb bc, .slice ea ne ec] 109))
 go_enter Tryz.func206, Tryz.ntmps206
 cases h2 : a2.toList.isEmpty
 ·go_wp2_with fail
  go_ret
  exact ⟨ret_bool (by simp only [plainS, h2, Bool.true_and, Bool.false_and]), hB.out⟩
 cases h3 : a3 == 0
 ·go_wp2_with fail
  go_ret
  exact ⟨ret_bool (by simp only [plainS, h2, h3, Bool.true_and, Bool.false_and]), hB.out⟩
 cases h4 : a4.toList.isEmpty
 ·go_wp2_with fail
  go_ret
  exact ⟨ret_bool (by simp only [plainS, h2, h3, h4, Bool.true_and, Bool.false_and]), hB.out⟩
 cases h5 : (n : Int) == (k : Int)
 ·go_wp2_with fail
  go_ret
  exact ⟨ret_bool (by simp only [plainS, h2, h3, h4, h5, Bool.true_and, Bool.false_and]), hB.out⟩
 cases h6 : (nb : Int) == 0
 ·go_wp2_with fail
  go_ret
  exact ⟨ret_bool (by simp only [plainS, h2, h3, h4, h5, h6, Bool.true_and, Bool.false_and]), hB.out⟩
 cases h7 : (ne : Int) == 0
 ·go_wp2_with fail
  go_ret
  exact ⟨ret_bool (by simp only [plainS, h2, h3, h4, h5, h6, h7, Bool.true_and, Bool.false_and]), hB.out⟩
 go_wp2_with fail
 go_ret
 exact ⟨ret_bool (by simp only [plainS, h2, h3, h4, h5, h6, h7, Bool.true_and]), hB.out⟩
open Go.Shelf
def lv0 : List ByteArray := [⟨#[124, 124]⟩]
def lv1 : List ByteArray := [⟨#[38, 38]⟩]
def lv2 : List ByteArray := [⟨#[61, 61]⟩, ⟨#[33, 61]⟩, ⟨#[60]⟩, ⟨#[60, 61]⟩, ⟨#[62]⟩, ⟨#[62, 61]⟩]
def lv3 : List ByteArray := [⟨#[124]⟩, ⟨#[94]⟩]
def lv4 : List ByteArray := [⟨#[38]⟩]
def lv5 : List ByteArray := [⟨#[60, 60]⟩, ⟨#[62, 62]⟩]
def lv6 : List ByteArray := [⟨#[43]⟩, ⟨#[45]⟩]
def lv7 : List ByteArray := [⟨#[42]⟩, ⟨#[47]⟩, ⟨#[37]⟩]
def levL : List (List ByteArray) := [lv0, lv1, lv2, lv3, lv4, lv5, lv6, lv7]
def levB (x : ByteArray) : Bool := levL.any (inList · x)
def setsL : List ByteArray := [⟨#[]⟩, ⟨#[43]⟩, ⟨#[45]⟩, ⟨#[42]⟩, ⟨#[47]⟩, ⟨#[37]⟩, ⟨#[38]⟩, ⟨#[124]⟩, ⟨#[94]⟩, ⟨#[60, 60]⟩, ⟨#[62, 62]⟩]
def unaL : List ByteArray := [⟨#[45]⟩, ⟨#[33]⟩, ⟨#[126]⟩]
/-- the rows of the levels lie here -/
structure LevIn (B : Nat) (w : World) : Prop where
 rows : ∀ j (h : j < levL.length), w.cell? ⟨B + 8, j, none⟩ = some (.slice (some ⟨B + j, 0, none⟩) levL[j].length levL[j].length)
 cells : ∀ j (h : j < levL.length) i (hi : i < levL[j].length), w.cell? ⟨B + j, i, none⟩ = some (.string levL[j][i])
theorem cell_bx {w : World} {q : Nat} {L : List ByteArray} (h : Bx w q (L.map Value.string).toArray 9) (i : Nat) (hi : i < L.length) : w.cell? ⟨q, i, none⟩ = some (.string L[i]) := by
 rw [h.cell]
 simp [hi]
set_option maxHeartbeats 2000000 in
theorem levels101 (w : World) : Calls Tryz.prog 258 #[] w fun e w' => e = .returned (.slice (some ⟨w.heap.size + 8, 0, none⟩) 8 8) ∧ LevIn w.heap.size w' ∧ Below w.heap.size w w' := by
 obtain ⟨w0, hw0⟩ : ∃ w0, w0 = w := ⟨_, rfl⟩
 obtain ⟨w1, hw1⟩ : ∃ x, x = w0.alloc (.cells (lv0.map Value.string).toArray 9) := ⟨_, rfl⟩
 have hs1 : w1.heap.size = w.heap.size + 1 := by rw [hw1]; simp [hw0]
 obtain ⟨w2, hw2⟩ : ∃ x, x = w1.alloc (.cells (lv1.map Value.string).toArray 9) := ⟨_, rfl⟩
 have hs2 : w2.heap.size = w.heap.size + 2 := by rw [hw2]; simp; omega
 obtain ⟨w3, hw3⟩ : ∃ x, x = w2.alloc (.cells (lv2.map Value.string).toArray 9) := ⟨_, rfl⟩
 have hs3 : w3.heap.size = w.heap.size + 3 := by rw [hw3]; simp; omega
 obtain ⟨w4, hw4⟩ : ∃ x, x = w3.alloc (.cells (lv3.map Value.string).toArray 9) := ⟨_, rfl⟩
 have hs4 : w4.heap.size = w.heap.size + 4 := by rw [hw4]; simp; omega
 obtain ⟨w5, hw5⟩ : ∃ x, x = w4.alloc (.cells (lv4.map Value.string).toArray 9) := ⟨_, rfl⟩
 have hs5 : w5.heap.size = w.heap.size + 5 := by rw [hw5]; simp; omega
 obtain ⟨w6, hw6⟩ : ∃ x, x = w5.alloc (.cells (lv5.map Value.string).toArray 9) := ⟨_, rfl⟩
 have hs6 : w6.heap.size = w.heap.size + 6 := by rw [hw6]; simp; omega
 obtain ⟨w7, hw7⟩ : ∃ x, x = w6.alloc (.cells (lv6.map Value.string).toArray 9) := ⟨_, rfl⟩
 have hs7 : w7.heap.size = w.heap.size + 7 := by rw [hw7]; simp; omega
 obtain ⟨w8, hw8⟩ : ∃ x, x = w7.alloc (.cells (lv7.map Value.string).toArray 9) := ⟨_, rfl⟩
 have hs8 : w8.heap.size = w.heap.size + 8 := by rw [hw8]; simp; omega
 obtain ⟨w9, hw9⟩ : ∃ x, x = w8.alloc (.cells #[.slice (some ⟨w.heap.size + 0, 0, none⟩) 1 1, .slice (some ⟨w.heap.size + 1, 0, none⟩) 1 1, .slice (some ⟨w.heap.size + 2, 0, none⟩) 6 6, .slice (some ⟨w.heap.size + 3, 0, none⟩) 2 2, .slice (some ⟨w.heap.size + 4, 0, none⟩) 1 1, .slice (some ⟨w.heap.size + 5, 0, none⟩) 2 2, .slice (some ⟨w.heap.size + 6, 0, none⟩) 2 2, .slice (some ⟨w.heap.size + 7, 0, none⟩) 3 3] 174) := ⟨_, rfl⟩
 have b0 : Bx w9 (w.heap.size + 0) (lv0.map Value.string).toArray 9 := by
  have h := Bx.new w0 (lv0.map Value.string).toArray 9
  rw [← hw1] at h
  have h := h.on (w' := w2) (row := none) (by rw [hw2]; exact World.grownBy_alloc _ _ _) (by simp)
  have h := h.on (w' := w3) (row := none) (by rw [hw3]; exact World.grownBy_alloc _ _ _) (by simp)
  have h := h.on (w' := w4) (row := none) (by rw [hw4]; exact World.grownBy_alloc _ _ _) (by simp)
  have h := h.on (w' := w5) (row := none) (by rw [hw5]; exact World.grownBy_alloc _ _ _) (by simp)
  have h := h.on (w' := w6) (row := none) (by rw [hw6]; exact World.grownBy_alloc _ _ _) (by simp)
  have h := h.on (w' := w7) (row := none) (by rw [hw7]; exact World.grownBy_alloc _ _ _) (by simp)
  have h := h.on (w' := w8) (row := none) (by rw [hw8]; exact World.grownBy_alloc _ _ _) (by simp)
  have h := h.on (w' := w9) (row := none) (by rw [hw9]; exact World.grownBy_alloc _ _ _) (by simp)
  rw [hw0] at h
  exact h
 have b1 : Bx w9 (w.heap.size + 1) (lv1.map Value.string).toArray 9 := by
  have h := Bx.new w1 (lv1.map Value.string).toArray 9
  rw [← hw2] at h
  have h := h.on (w' := w3) (row := none) (by rw [hw3]; exact World.grownBy_alloc _ _ _) (by simp)
  have h := h.on (w' := w4) (row := none) (by rw [hw4]; exact World.grownBy_alloc _ _ _) (by simp)
  have h := h.on (w' := w5) (row := none) (by rw [hw5]; exact World.grownBy_alloc _ _ _) (by simp)
  have h := h.on (w' := w6) (row := none) (by rw [hw6]; exact World.grownBy_alloc _ _ _) (by simp)
  have h := h.on (w' := w7) (row := none) (by rw [hw7]; exact World.grownBy_alloc _ _ _) (by simp)
  have h := h.on (w' := w8) (row := none) (by rw [hw8]; exact World.grownBy_alloc _ _ _) (by simp)
  have h := h.on (w' := w9) (row := none) (by rw [hw9]; exact World.grownBy_alloc _ _ _) (by simp)
  rw [hs1] at h
  exact h
 have b2 : Bx w9 (w.heap.size + 2) (lv2.map Value.string).toArray 9 := by
  have h := Bx.new w2 (lv2.map Value.string).toArray 9
  rw [← hw3] at h
  have h := h.on (w' := w4) (row := none) (by rw [hw4]; exact World.grownBy_alloc _ _ _) (by simp)
  have h := h.on (w' := w5) (row := none) (by rw [hw5]; exact World.grownBy_alloc _ _ _) (by simp)
  have h := h.on (w' := w6) (row := none) (by rw [hw6]; exact World.grownBy_alloc _ _ _) (by simp)
  have h := h.on (w' := w7) (row := none) (by rw [hw7]; exact World.grownBy_alloc _ _ _) (by simp)
  have h := h.on (w' := w8) (row := none) (by rw [hw8]; exact World.grownBy_alloc _ _ _) (by simp)
  have h := h.on (w' := w9) (row := none) (by rw [hw9]; exact World.grownBy_alloc _ _ _) (by simp)
  rw [hs2] at h
  exact h
 have b3 : Bx w9 (w.heap.size + 3) (lv3.map Value.string).toArray 9 := by
  have h := Bx.new w3 (lv3.map Value.string).toArray 9
  rw [← hw4] at h
  have h := h.on (w' := w5) (row := none) (by rw [hw5]; exact World.grownBy_alloc _ _ _) (by simp)
  have h := h.on (w' := w6) (row := none) (by rw [hw6]; exact World.grownBy_alloc _ _ _) (by simp)
  have h := h.on (w' := w7) (row := none) (by rw [hw7]; exact World.grownBy_alloc _ _ _) (by simp)
  have h := h.on (w' := w8) (row := none) (by rw [hw8]; exact World.grownBy_alloc _ _ _) (by simp)
  have h := h.on (w' := w9) (row := none) (by rw [hw9]; exact World.grownBy_alloc _ _ _) (by simp)
  rw [hs3] at h
  exact h
 have b4 : Bx w9 (w.heap.size + 4) (lv4.map Value.string).toArray 9 := by
  have h := Bx.new w4 (lv4.map Value.string).toArray 9
  rw [← hw5] at h
  have h := h.on (w' := w6) (row := none) (by rw [hw6]; exact World.grownBy_alloc _ _ _) (by simp)
  have h := h.on (w' := w7) (row := none) (by rw [hw7]; exact World.grownBy_alloc _ _ _) (by simp)
  have h := h.on (w' := w8) (row := none) (by rw [hw8]; exact World.grownBy_alloc _ _ _) (by simp)
  have h := h.on (w' := w9) (row := none) (by rw [hw9]; exact World.grownBy_alloc _ _ _) (by simp)
  rw [hs4] at h
  exact h
 have b5 : Bx w9 (w.heap.size + 5) (lv5.map Value.string).toArray 9 := by
  have h := Bx.new w5 (lv5.map Value.string).toArray 9
  rw [← hw6] at h
  have h := h.on (w' := w7) (row := none) (by rw [hw7]; exact World.grownBy_alloc _ _ _) (by simp)
  have h := h.on (w' := w8) (row := none) (by rw [hw8]; exact World.grownBy_alloc _ _ _) (by simp)
  have h := h.on (w' := w9) (row := none) (by rw [hw9]; exact World.grownBy_alloc _ _ _) (by simp)
  rw [hs5] at h
  exact h
 have b6 : Bx w9 (w.heap.size + 6) (lv6.map Value.string).toArray 9 := by
  have h := Bx.new w6 (lv6.map Value.string).toArray 9
  rw [← hw7] at h
  have h := h.on (w' := w8) (row := none) (by rw [hw8]; exact World.grownBy_alloc _ _ _) (by simp)
  have h := h.on (w' := w9) (row := none) (by rw [hw9]; exact World.grownBy_alloc _ _ _) (by simp)
  rw [hs6] at h
  exact h
 have b7 : Bx w9 (w.heap.size + 7) (lv7.map Value.string).toArray 9 := by
  have h := Bx.new w7 (lv7.map Value.string).toArray 9
  rw [← hw8] at h
  have h := h.on (w' := w9) (row := none) (by rw [hw9]; exact World.grownBy_alloc _ _ _) (by simp)
  rw [hs7] at h
  exact h
 have b8 : Bx w9 (w.heap.size + 8) #[.slice (some ⟨w.heap.size + 0, 0, none⟩) 1 1, .slice (some ⟨w.heap.size + 1, 0, none⟩) 1 1, .slice (some ⟨w.heap.size + 2, 0, none⟩) 6 6, .slice (some ⟨w.heap.size + 3, 0, none⟩) 2 2, .slice (some ⟨w.heap.size + 4, 0, none⟩) 1 1, .slice (some ⟨w.heap.size + 5, 0, none⟩) 2 2, .slice (some ⟨w.heap.size + 6, 0, none⟩) 2 2, .slice (some ⟨w.heap.size + 7, 0, none⟩) 3 3] 174 := by
  have h := Bx.new w8 #[.slice (some ⟨w.heap.size + 0, 0, none⟩) 1 1, .slice (some ⟨w.heap.size + 1, 0, none⟩) 1 1, .slice (some ⟨w.heap.size + 2, 0, none⟩) 6 6, .slice (some ⟨w.heap.size + 3, 0, none⟩) 2 2, .slice (some ⟨w.heap.size + 4, 0, none⟩) 1 1, .slice (some ⟨w.heap.size + 5, 0, none⟩) 2 2, .slice (some ⟨w.heap.size + 6, 0, none⟩) 2 2, .slice (some ⟨w.heap.size + 7, 0, none⟩) 3 3] 174
  rw [← hw9, hs8] at h
  exact h
 have hbl : Below w.heap.size w w9 := by
  have g0 : Below w.heap.size w w0 := by rw [hw0]; exact Below.refl _ _
  have g1 : Below w.heap.size w w1 := by rw [hw1]; exact g0.alloc g0.size _
  have g2 : Below w.heap.size w w2 := by rw [hw2]; exact g1.alloc g1.size _
  have g3 : Below w.heap.size w w3 := by rw [hw3]; exact g2.alloc g2.size _
  have g4 : Below w.heap.size w w4 := by rw [hw4]; exact g3.alloc g3.size _
  have g5 : Below w.heap.size w w5 := by rw [hw5]; exact g4.alloc g4.size _
  have g6 : Below w.heap.size w w6 := by rw [hw6]; exact g5.alloc g5.size _
  have g7 : Below w.heap.size w w7 := by rw [hw7]; exact g6.alloc g6.size _
  have g8 : Below w.heap.size w w8 := by rw [hw8]; exact g7.alloc g7.size _
  have g9 : Below w.heap.size w w9 := by rw [hw9]; exact g8.alloc g8.size _
  exact g9
 have hL : Hid (LevIn w.heap.size w9) := hid {
  rows := fun j h => by
   rw [b8.cell]
   match j, h with
   | 0, _ => rfl
   | 1, _ => rfl
   | 2, _ => rfl
   | 3, _ => rfl
   | 4, _ => rfl
   | 5, _ => rfl
   | 6, _ => rfl
   | 7, _ => rfl
  cells := fun j h i hi => by
   match j, h with
   | 0, _ => exact cell_bx b0 i hi
   | 1, _ => exact cell_bx b1 i hi
   | 2, _ => exact cell_bx b2 i hi
   | 3, _ => exact cell_bx b3 i hi
   | 4, _ => exact cell_bx b4 i hi
   | 5, _ => exact cell_bx b5 i hi
   | 6, _ => exact cell_bx b6 i hi
   | 7, _ => exact cell_bx b7 i hi }
 have hBL := hid hbl
 clear hbl b0 b1 b2 b3 b4 b5 b6 b7 b8 hs8 hs7 hs6 hs5 hs4 hs3 hs2 hs1
 subst hw9
 subst hw8
 subst hw7
 subst hw6
 subst hw5
 subst hw4
 subst hw3
 subst hw2
 subst hw1
 subst hw0
 go_enter Tryz.func258, Tryz.ntmps258
 go_wp2_with fail
 go_ret
 exact ⟨rfl, hL.out, hBL.out⟩
open Go.Shelf
theorem levL_len : levL.length = 8 := rfl
theorem levB_no {x : ByteArray} (h : ∀ j (hj : j < levL.length), inList levL[j] x = false) : levB x = false := by
 unfold levB
 rw [List.any_eq_false]
 intro l hl
 obtain ⟨j, hj, rfl⟩ := List.getElem_of_mem hl
 rw [h j hj]
 simp
theorem levB_yes {x : ByteArray} {j : Nat} (hj : j < levL.length) (h : inList levL[j] x = true) : levB x = true :=
 List.any_eq_true.2 ⟨_, List.getElem_mem hj, h⟩
theorem lev_small : ∀ j (h : j < levL.length), levL[j].length ≤ 1000 := by decide
set_option maxHeartbeats 1000000 in
theorem levelOf83 (x : ByteArray) (w : World) : Calls Tryz.prog 237 #[.string x] w fun e w' => (∃ r : Int, e = .returned (.int .i64 r) ∧ decide (0 < r) = levB x) ∧ Below w.heap.size w w' := by
 have hcall := hid (levels101 w)
 go_enter Tryz.func237, Tryz.ntmps237
 go_wp2_with fail
 refine hcall.out.mono ?_
 rintro e w2 ⟨rfl, hL, hb⟩
 have hL' := hid hL
 have hB := hid hb
 clear hL hb hcall
 go_wp2_with fail
 go_loopw [7] (fun y wr => ∃ k : Nat, y = .int .i64 k ∧ k ≤ 8 ∧ (∀ j (hj : j < levL.length), j < k → inList levL[j] x = false) ∧ wr = w2) (fun y _ => 8 - (intOf y).toNat)
 case atStart => exact ⟨0, rfl, Nat.zero_le _, fun j _ hj => by omega, rfl⟩
 case round =>
  obtain ⟨k, rfl, hk, hno, hw⟩ := hrel
  subst wr
  have hno' := hid hno
  clear hno
  by_cases hlt : k < 8
  ·have hr := hL'.out.rows k (by rw [levL_len]; exact hlt)
   have hc := hid (contains59 (levL[k]'(by rw [levL_len]; exact hlt)) (w.heap.size + k) x w2 (lev_small k (by rw [levL_len]; exact hlt)) (hL'.out.cells k (by rw [levL_len]; exact hlt)))
   generalize hLk : levL[k]'(by rw [levL_len]; exact hlt) = Lk at *
   have hLk' := hid hLk
   clear hLk
   go_wp2_with fail
   refine hc.out.mono ?_
   rintro e w3 ⟨rfl, hw⟩
   subst w3
   cases hq : inList Lk x
   ·have key : Hid (∀ j (hj : j < levL.length), j < k + 1 → inList levL[j] x = false) := hid (fun j hj hjk => by
     rcases Nat.lt_or_ge j k with h1 | h1
     ·exact hno'.out j hj h1
     ·have e : j = k := by omega
      subst e
      rw [hLk'.out]
      exact hq)
    go_wp2_with fail
    go_roundw
    case rel => exact ⟨k + 1, by go_num, by omega, key.out, trivial⟩
    case measure => simp [intOf]; omega
   ·go_wp2_with fail
    go_ret
    refine ⟨⟨_, rfl, ?_⟩, hB.out⟩
    rw [levB_yes (x := x) (j := k) (by rw [levL_len]; exact hlt) (by rw [hLk'.out]; exact hq)]
    simp
    try omega
  ·go_wp2_with fail
   go_ret
   refine ⟨⟨_, rfl, ?_⟩, hB.out⟩
   rw [levB_no (fun j hj => hno'.out j hj (by have := levL_len; omega))]
   rfl
theorem isBinary62 (x : ByteArray) (w : World) : Calls Tryz.prog 210 #[.string x] w fun e w' => e = .returned (.bool (levB x)) ∧ Below w.heap.size w w' := by
 have hcall := hid (levelOf83 x w)
 go_enter Tryz.func210, Tryz.ntmps210
 go_wp2_with fail
 refine hcall.out.mono ?_
 rintro e w2 ⟨⟨r, rfl, hr⟩, hb⟩
 have hr' := hid hr
 have hb' := hid hb
 clear hr hb
 go_wp2_with fail
 go_ret
 exact ⟨ret_bool hr'.out, hb'.out⟩
theorem sets60 (w : World) : Calls Tryz.prog 208 #[] w fun e w' => e = .returned (.slice (some ⟨w.heap.size, 0, none⟩) 11 11) ∧ w' = w.alloc (.cells (setsL.map Value.string).toArray 9) := by
 go_enter Tryz.func208, Tryz.ntmps208
 go_wp2_with fail
 go_ret
 exact ⟨rfl, rfl⟩
end
section
open Go.Shelf
def ariL : List ByteArray := [⟨#[43]⟩, ⟨#[45]⟩, ⟨#[42]⟩, ⟨#[47]⟩]
def binT (sign : ByteArray) (a b : Int) : Except Int Int :=
 if a ≠ b then .error 292 else if inList ariL sign then .ok a else if inList lv2 sign then .ok 1 else if a = 1 then .ok 1 else .error 292
theorem ari_or (s : ByteArray) : inList ariL s = (s.toList == [43] || (s.toList == [45] || (s.toList == [42] || s.toList == [47]))) := by
 simp only [inList, ariL, List.any_cons, List.any_nil, lit_toList, Bool.or_false]
theorem lv2_or (s : ByteArray) : inList lv2 s = (s.toList == [61, 61] || (s.toList == [33, 61] || (s.toList == [60] || (s.toList == [60, 61] || (s.toList == [62] || s.toList == [62, 61]))))) := by
 simp only [inList, lv2, List.any_cons, List.any_nil, lit_toList, Bool.or_false]
set_option maxHeartbeats 4000000 in
theorem binary119 (s : ByteArray) (a b : Int) (w : World) : Calls Tryz.prog 119 #[.string s, .int .u8 a, .int .u8 b] w fun e w' => e = outT (binT s a b) ∧ w' = w := by
 by_cases hab : a = b
 ·subst b
  have c1 := hid (ask_y 292 w)
  have p0 := ari_or s
  have p1 := lv2_or s
  cases h0 : s.toList == [43]
  case true =>
   have hh := hid (show binT s a a = .ok a by unfold binT; rw [p0, p1]; simp [h0])
   clear p0 p1
   go_enter Tryz.func119, Tryz.ntmps119
   go_wp2_with fail
   refine c1.out.mono ?_
   rintro e w2 ⟨rfl, hw⟩
   subst w2
   clear c1
   go_wp2_with fail
   go_ret
   rw [hh.out]
   exact ⟨rfl, rfl⟩
  case false =>
   cases h1 : s.toList == [45]
   case true =>
    have hh := hid (show binT s a a = .ok a by unfold binT; rw [p0, p1]; simp [h0, h1])
    clear p0 p1
    go_enter Tryz.func119, Tryz.ntmps119
    go_wp2_with fail
    refine c1.out.mono ?_
    rintro e w2 ⟨rfl, hw⟩
    subst w2
    clear c1
    go_wp2_with fail
    go_ret
    rw [hh.out]
    exact ⟨rfl, rfl⟩
   case false =>
    cases h2 : s.toList == [42]
    case true =>
     have hh := hid (show binT s a a = .ok a by unfold binT; rw [p0, p1]; simp [h0, h1, h2])
     clear p0 p1
     go_enter Tryz.func119, Tryz.ntmps119
     go_wp2_with fail
     refine c1.out.mono ?_
     rintro e w2 ⟨rfl, hw⟩
     subst w2
     clear c1
     go_wp2_with fail
     go_ret
     rw [hh.out]
     exact ⟨rfl, rfl⟩
    case false =>
     cases h3 : s.toList == [47]
     case true =>
      have hh := hid (show binT s a a = .ok a by unfold binT; rw [p0, p1]; simp [h0, h1, h2, h3])
      clear p0 p1
      go_enter Tryz.func119, Tryz.ntmps119
      go_wp2_with fail
      refine c1.out.mono ?_
      rintro e w2 ⟨rfl, hw⟩
      subst w2
      clear c1
      go_wp2_with fail
      go_ret
      rw [hh.out]
      exact ⟨rfl, rfl⟩
     case false =>
      cases h4 : s.toList == [61, 61]
      case true =>
       have hh := hid (show binT s a a = .ok 1 by unfold binT; rw [p0, p1]; simp [h0, h1, h2, h3, h4])
       clear p0 p1
       go_enter Tryz.func119, Tryz.ntmps119
       go_wp2_with fail
       refine c1.out.mono ?_
       rintro e w2 ⟨rfl, hw⟩
       subst w2
       clear c1
       go_wp2_with fail
       go_ret
       rw [hh.out]
       exact ⟨rfl, rfl⟩
      case false =>
       cases h5 : s.toList == [33, 61]
       case true =>
        have hh := hid (show binT s a a = .ok 1 by unfold binT; rw [p0, p1]; simp [h0, h1, h2, h3, h4, h5])
        clear p0 p1
        go_enter Tryz.func119, Tryz.ntmps119
        go_wp2_with fail
        refine c1.out.mono ?_
        rintro e w2 ⟨rfl, hw⟩
        subst w2
        clear c1
        go_wp2_with fail
        go_ret
        rw [hh.out]
        exact ⟨rfl, rfl⟩
       case false =>
        cases h6 : s.toList == [60]
        case true =>
         have hh := hid (show binT s a a = .ok 1 by unfold binT; rw [p0, p1]; simp [h0, h1, h2, h3, h4, h5, h6])
         clear p0 p1
         go_enter Tryz.func119, Tryz.ntmps119
         go_wp2_with fail
         refine c1.out.mono ?_
         rintro e w2 ⟨rfl, hw⟩
         subst w2
         clear c1
         go_wp2_with fail
         go_ret
         rw [hh.out]
         exact ⟨rfl, rfl⟩
        case false =>
         cases h7 : s.toList == [60, 61]
         case true =>
          have hh := hid (show binT s a a = .ok 1 by unfold binT; rw [p0, p1]; simp [h0, h1, h2, h3, h4, h5, h6, h7])
          clear p0 p1
          go_enter Tryz.func119, Tryz.ntmps119
          go_wp2_with fail
          refine c1.out.mono ?_
          rintro e w2 ⟨rfl, hw⟩
          subst w2
          clear c1
          go_wp2_with fail
          go_ret
          rw [hh.out]
          exact ⟨rfl, rfl⟩
         case false =>
          cases h8 : s.toList == [62]
          case true =>
           have hh := hid (show binT s a a = .ok 1 by unfold binT; rw [p0, p1]; simp [h0, h1, h2, h3, h4, h5, h6, h7, h8])
           clear p0 p1
           go_enter Tryz.func119, Tryz.ntmps119
           go_wp2_with fail
           refine c1.out.mono ?_
           rintro e w2 ⟨rfl, hw⟩
           subst w2
           clear c1
           go_wp2_with fail
           go_ret
           rw [hh.out]
           exact ⟨rfl, rfl⟩
          case false =>
           cases h9 : s.toList == [62, 61]
           case true =>
            have hh := hid (show binT s a a = .ok 1 by unfold binT; rw [p0, p1]; simp [h0, h1, h2, h3, h4, h5, h6, h7, h8, h9])
            clear p0 p1
            go_enter Tryz.func119, Tryz.ntmps119
            go_wp2_with fail
            refine c1.out.mono ?_
            rintro e w2 ⟨rfl, hw⟩
            subst w2
            clear c1
            go_wp2_with fail
            go_ret
            rw [hh.out]
            exact ⟨rfl, rfl⟩
           case false =>
            by_cases hA : a = 1
            ·subst a
             have hh := hid (show binT s 1 1 = .ok 1 by unfold binT; simp)
             clear p0 p1
             have c2 := c1
             go_enter Tryz.func119, Tryz.ntmps119
             go_wp2_with fail
             refine c1.out.mono ?_
             rintro e w2 ⟨rfl, hw⟩
             subst w2
             clear c1
             go_wp2_with fail
             refine c2.out.mono ?_
             rintro e w2 ⟨rfl, hw⟩
             subst w2
             clear c2
             go_wp2_with fail
             go_ret
             rw [hh.out]
             exact ⟨rfl, rfl⟩
            ·have hh := hid (show binT s a a = .error 292 by unfold binT; rw [p0, p1]; simp [hA, h0, h1, h2, h3, h4, h5, h6, h7, h8, h9])
             clear p0 p1
             have c2 := hid (ask_n 292 w)
             go_enter Tryz.func119, Tryz.ntmps119
             go_wp2_with fail
             refine c1.out.mono ?_
             rintro e w2 ⟨rfl, hw⟩
             subst w2
             clear c1
             go_wp2_with fail
             (try rw [show (a == 1) = false by simpa using hA]); refine c2.out.mono ?_
             rintro e w2 ⟨rfl, hw⟩
             subst w2
             clear c2
             go_wp2_with fail
             refine bp_panic ?_
             rw [hh.out]
             exact ⟨rfl, rfl⟩
 ·have hh := hid (show binT s a b = .error 292 by unfold binT; rw [if_pos hab])
  have c1 := hid (ask_n 292 w)
  go_enter Tryz.func119, Tryz.ntmps119
  go_wp2_with fail
  (try rw [show (a == b) = false by simpa using hab]); refine c1.out.mono ?_
  rintro e w2 ⟨rfl, hw⟩
  subst w2
  clear c1
  go_wp2_with fail
  refine bp_panic ?_
  rw [hh.out]
  exact ⟨rfl, rfl⟩
def signT (sign : ByteArray) (t : Int) : Except Int Unit :=
 if sign.toList == [] then .ok () else match binT sign t t with
  | .error e => .error e
  | .ok _ => .ok ()
theorem signed172 (s : ByteArray) (t : Int) (w : World) : Calls Tryz.prog 172 #[.string s, .int .u8 t] w fun e w' => e = outU (signT s t) ∧ w' = w := by
 have c1 := hid (binary119 s t t w)
 cases h0 : s.toList == []
 ·cases hb : binT s t t with
  | ok a =>
   have hh := hid (show signT s t = .ok () by unfold signT; rw [h0, hb]; rfl)
   rw [hb] at c1
   go_enter Tryz.func172, Tryz.ntmps172
   go_wp2_with fail
   refine c1.out.mono ?_
   rintro e w2 ⟨rfl, hw⟩
   subst w2
   go_wp2_with fail
   go_end0
   rw [hh.out]
   exact ⟨rfl, rfl⟩
  | error a =>
   have hh := hid (show signT s t = .error a by unfold signT; rw [h0, hb]; rfl)
   rw [hb] at c1
   go_enter Tryz.func172, Tryz.ntmps172
   go_wp2_with fail
   refine c1.out.mono ?_
   rintro e w2 ⟨he, hw⟩
   obtain rfl : e = flt a := he
   subst w2
   go_wp2_with fail
   refine bp_panic ?_
   rw [hh.out]
   exact ⟨rfl, rfl⟩
 ·have hh := hid (show signT s t = .ok () by unfold signT; rw [h0]; rfl)
  go_enter Tryz.func172, Tryz.ntmps172
  go_wp2_with fail
  go_end0
  rw [hh.out]
  exact ⟨rfl, rfl⟩
end
end Go.Proofs.YtlabadkfkbenoaaGreatDoor
