/- Walk: FigureWords. -/
import Derived.Test.YtmbdlhgclkbdiaaDoorWordL
import Derived.WalkSmall
namespace Go.Proofs.YtmbdlhgclkbdiaaDoor
open Go.RowKit
set_option linter.unusedVariables false
set_option linter.unusedSimpArgs false

/-- the laid tables -/
structure Tb (w : World) : Prop where
  tab : Lib.TabIs Tryd.prog w "internal/strconv.uint64pow10" .u64 Lib.pow10Tab
  cell : w.cell? ⟨3, 15, none⟩ = some (.int .u8 4)
theorem Tb.below {w w' : World} (h : Tb w) (hb : Below w.heap.size w w') : Tb w' := by
  have hlt := World.block_lt_of_cell? w _ h.cell
  refine ⟨?_, (hb.cell hlt).trans h.cell⟩
  have := h.tab
  unfold Lib.TabIs at this ⊢
  exact var?_below hb (g := 0) (by kernel_rfl) (by have : (3 : Nat) < w.heap.size := hlt; omega) this

/-- what Signed writes -/
theorem sgn_pos (x : Nat) (h : x < 2147483648) : (⟨(Lib.itoa (sgn x)).toArray⟩ : ByteArray) = ⟨⟨Lib.decDigits x⟩⟩ := by
  have : Lib.itoa (sgn x) = Lib.decDigits x := by
    unfold Lib.itoa sgn
    rw [if_pos h, if_neg (by omega)]
    congr 1
  rw [this]
theorem sgn_neg (x y : Nat) (h : ¬ x < 2147483648) (hx : x < 4294967296) (hy : y = 4294967296 - x) : (⟨(Lib.itoa (sgn x)).toArray⟩ : ByteArray) = ⟨⟨45 :: Lib.decDigits y⟩⟩ := by
  have : Lib.itoa (sgn x) = 45 :: Lib.decDigits y := by
    unfold Lib.itoa sgn
    rw [if_neg h, if_pos (by omega)]
    congr 2
    omega
  rw [this]

set_option maxHeartbeats 1000000 in
set_option maxRecDepth 100000 in
theorem words_pos (x n : Nat) (hx : x < 2147483648) (hn : n < 256) (w : World) (ht : Tb w) :
    Calls Tryd.prog 4 #[.int .u32 x, .int .u8 n] w fun e w' => e = .returned (.bool true) ∧ Below w.heap.size w w' := by
  obtain ⟨S, hS⟩ : ∃ S : ByteArray, S = ⟨⟨Lib.decDigits x⟩⟩ := ⟨_, rfl⟩
  have h5 : Hid (∀ w1 : World, Tb w1 → Calls Tryd.prog 5 #[.int .u32 x] w1 fun e w' => e = .returned (.string S) ∧ Below w1.heap.size w1 w') := hid (fun w1 h1 => by
    have := signed5 x (by omega) w1 h1.tab
    rw [sgn_pos x hx, ← hS] at this
    exact this)
  have hTb := hid ht
  have hSv : Hid (wordV S = ((x : Int), 0, 0)) := by
    have := word_pos x 0 (by omega) (by decide)
    rw [hS]
    exact hid this
  have hSz : S.size ≤ 20 := by
    rw [hS]
    show (Lib.decDigits x).length ≤ 20
    rw [Lib.decDigits_length]
    exact Lib.nDigits_le20 x (by omega)
  obtain ⟨Z, hZ⟩ : ∃ Z : ByteArray, Z = hexT x := ⟨_, rfl⟩
  have h7 : Hid (∀ w1 : World, Tb w1 → Calls Tryd.prog 7 #[.int .u32 x] w1 fun e w' => e = .returned (.string Z) ∧ Below w1.heap.size w1 w') := hid (fun w1 h1 => by
    rw [hZ]
    exact hex7 x (by omega) w1 h1.cell)
  have hZv : Hid (wordV Z = ((x : Int), 0, 0)) := by
    rw [hZ]
    exact hid (word_hex x (by omega))
  have hZs : Hid (Z.size = 10) := by
    rw [hZ]
    exact hid (by unfold hexT; rw [b8_size]; simp [hexFix_len])
  have hRv : Hid (wordV (⟨⟨List.replicate (n % 40) 48⟩⟩ ++ S) = ((x : Int), 0, 0)) := by
    have := word_pos x (n % 40) (by omega) (Nat.mod_lt _ (by decide))
    rw [hS]
    exact hid (by rw [← this]; congr 1)
  have hi : IntKind.i32.wrap (x : Int) = x := by rw [IntKind.wrap_i32]; omega
  have hq : ((x : Int) < 0) = False := eq_false (by omega)
  have hSh := hid hSz
  clear hS hZ ht
  go_enter Tryd.func4, Tryd.ntmps4
  go_wp2_with fail
  refine (h5.out w hTb.out).mono ?_
  rintro e w1 ⟨rfl, hb⟩
  have hB1 := hid hb
  clear hb
  go_wp2_with fail
  refine (word9 S w1 (by omega)).mono ?_
  rintro e w2 ⟨rfl, rfl⟩
  rw [hSv.out]
  go_wp2_with fail
  refine (h7.out w1 (hTb.out.below hB1.out)).mono ?_
  rintro e w2 ⟨rfl, hb⟩
  have hB2 := hid (hB1.out.trans (hb.mono hB1.out.size))
  clear hb hB1
  go_wp2_with fail
  refine (word9 Z w2 (by have := hZs.out; omega)).mono ?_
  rintro e w3 ⟨rfl, rfl⟩
  rw [hZv.out]
  go_wp2_with fail
  refine (h7.out w2 (hTb.out.below hB2.out)).mono ?_
  rintro e w3 ⟨rfl, hb⟩
  have hB3 := hid (hB2.out.trans (hb.mono hB2.out.size))
  clear hb hB2
  have hZe := hZs.out
  go_wp2_with fail
  refine (h5.out w3 (hTb.out.below hB3.out)).mono ?_
  rintro e w4 ⟨rfl, hb⟩
  have hB4 := hid (hB3.out.trans (hb.mono hB3.out.size))
  clear hb hB3
  go_wp2_with fail
  have hrep := Tryd.strings_Repeat ⟨#[48]⟩ (n % 40) w4 (by omega) (by show 1 * (n % 40) ≤ _; omega)
  rw [show (((n % 40 : Nat)) : Int) = (n : Int) % 40 by omega, show (Lib.repeatL (⟨#[48]⟩ : ByteArray).data.toList (n % 40)) = List.replicate (n % 40) 48 from rep48u (n % 40)] at hrep
  refine hrep.mono ?_
  clear hrep
  rintro e w5 ⟨rfl, hb⟩
  have hB5 := hid (hB4.out.trans (hb.mono hB4.out.size))
  clear hb hB4
  rw [show (⟨(List.replicate (n % 40) (48 : UInt8)).toArray⟩ : ByteArray) = ⟨⟨List.replicate (n % 40) 48⟩⟩ from rfl]
  obtain ⟨R, hR⟩ : ∃ R : ByteArray, R = ⟨⟨List.replicate (n % 40) 48⟩⟩ := ⟨_, rfl⟩
  have hRs : R.size ≤ 39 := by
    rw [hR]
    show (List.replicate (n % 40) (48 : UInt8)).length ≤ 39
    rw [List.length_replicate]; omega
  rw [← hR] at hRv ⊢
  clear hR
  have c1 : (9223372036854775807 < R.size) = False := eq_false (by omega)
  have c2 : (9223372036854775807 < 0 + R.size) = False := eq_false (by omega)
  have c3 : (9223372036854775807 < R.size + S.size) = False := eq_false (by omega)
  have hRh := hid hRs
  clear hRs hSz
  go_wp2_with fail
  have hRs2 := hRh.out
  have hSz2 := hSh.out
  refine (word9 _ w5 ?_).mono ?_
  · rw [ByteArray.size_append, ByteArray.size_append, show (⟨#[]⟩ : ByteArray).size = 0 from rfl]
    omega
  rintro e w6 ⟨rfl, rfl⟩
  rw [show (⟨#[]⟩ : ByteArray) ++ R ++ S = R ++ S by rw [show (⟨#[]⟩ : ByteArray) = ByteArray.empty from rfl, ByteArray.empty_append], hRv.out]
  go_wp2_with fail
  go_ret
  exact ⟨rfl, hB5.out⟩

set_option maxHeartbeats 1000000 in
set_option maxRecDepth 100000 in
theorem words_neg (x n : Nat) (hlo : ¬ x < 2147483648) (hx : x < 4294967296) (hn : n < 256) (w : World) (ht : Tb w) :
    Calls Tryd.prog 4 #[.int .u32 x, .int .u8 n] w fun e w' => e = .returned (.bool true) ∧ Below w.heap.size w w' := by
  obtain ⟨y, hy⟩ : ∃ y, y = 4294967296 - x := ⟨_, rfl⟩
  have hyx : (4294967296 - (y : Int)) % 4294967296 = x := by omega
  obtain ⟨D, hD⟩ : ∃ D : List UInt8, D = Lib.decDigits y := ⟨_, rfl⟩
  have h5 : Hid (∀ w1 : World, Tb w1 → Calls Tryd.prog 5 #[.int .u32 x] w1 fun e w' => e = .returned (.string ⟨⟨45 :: D⟩⟩) ∧ Below w1.heap.size w1 w') := hid (fun w1 h1 => by
    have := signed5 x (by omega) w1 h1.tab
    rw [sgn_neg x y hlo hx hy, ← hD] at this
    exact this)
  have hTb := hid ht
  have hSv : Hid (wordV ⟨⟨45 :: D⟩⟩ = ((x : Int), 0, 0)) := by
    have := word_min y 0 (by omega) (by decide)
    rw [hD]
    exact hid (by rw [← hyx]; exact this)
  have hSz : D.length ≤ 20 := by
    rw [hD, Lib.decDigits_length]
    exact Lib.nDigits_le20 y (by omega)
  obtain ⟨Z, hZ⟩ : ∃ Z : ByteArray, Z = hexT x := ⟨_, rfl⟩
  have h7 : Hid (∀ w1 : World, Tb w1 → Calls Tryd.prog 7 #[.int .u32 x] w1 fun e w' => e = .returned (.string Z) ∧ Below w1.heap.size w1 w') := hid (fun w1 h1 => by
    rw [hZ]
    exact hex7 x (by omega) w1 h1.cell)
  have hZv : Hid (wordV Z = ((x : Int), 0, 0)) := by
    rw [hZ]
    exact hid (word_hex x (by omega))
  have hZs : Hid (Z.size = 10) := by
    rw [hZ]
    exact hid (by unfold hexT; rw [b8_size]; simp [hexFix_len])
  have hRv : Hid (wordV (⟨#[45]⟩ ++ ⟨⟨List.replicate (n % 40) 48⟩⟩ ++ ⟨⟨D⟩⟩) = ((x : Int), 0, 0)) := by
    have := word_min y (n % 40) (by omega) (Nat.mod_lt _ (by decide))
    rw [hD]
    exact hid (by rw [← hyx, ← this]; congr 1)
  have hi : IntKind.i32.wrap (x : Int) = (x : Int) - 4294967296 := by rw [IntKind.wrap_i32]; omega
  have hq : ((x : Int) - 4294967296 < 0) = True := eq_true (by omega)
  have hSh := hid hSz
  have hE : Hid ((⟨⟨45 :: D⟩⟩ : ByteArray).extract 1 (D.length + 1) = ⟨⟨D⟩⟩) := hid (by apply ByteArray.ext; simp [ByteArray.data_extract])
  have q45 : ∀ h, ((((⟨⟨45 :: D⟩⟩ : ByteArray)[0]'h).toNat : Int) != 45) = false := fun _ => rfl
  clear hD hZ ht hyx hy hlo
  go_enter Tryd.func4, Tryd.ntmps4
  go_wp2_with fail
  refine (h5.out w hTb.out).mono ?_
  rintro e w1 ⟨rfl, hb⟩
  have hB1 := hid hb
  clear hb
  go_wp2_with fail
  refine (word9 ⟨⟨45 :: D⟩⟩ w1 (by show D.length + 1 ≤ _; omega)).mono ?_
  rintro e w2 ⟨rfl, rfl⟩
  rw [hSv.out]
  go_wp2_with fail
  refine (h7.out w1 (hTb.out.below hB1.out)).mono ?_
  rintro e w2 ⟨rfl, hb⟩
  have hB2 := hid (hB1.out.trans (hb.mono hB1.out.size))
  clear hb hB1
  go_wp2_with fail
  refine (word9 Z w2 (by have := hZs.out; omega)).mono ?_
  rintro e w3 ⟨rfl, rfl⟩
  rw [hZv.out]
  go_wp2_with fail
  refine (h7.out w2 (hTb.out.below hB2.out)).mono ?_
  rintro e w3 ⟨rfl, hb⟩
  have hB3 := hid (hB2.out.trans (hb.mono hB2.out.size))
  clear hb hB2
  have hZe := hZs.out
  go_wp2_with fail
  refine (h5.out w3 (hTb.out.below hB3.out)).mono ?_
  rintro e w4 ⟨rfl, hb⟩
  have hB4 := hid (hB3.out.trans (hb.mono hB3.out.size))
  clear hb hB3
  go_wp2_with fail
  rw [hE.out]
  have hrep := Tryd.strings_Repeat ⟨#[48]⟩ (n % 40) w4 (by omega) (by show 1 * (n % 40) ≤ _; omega)
  rw [show (((n % 40 : Nat)) : Int) = (n : Int) % 40 by omega, show (Lib.repeatL (⟨#[48]⟩ : ByteArray).data.toList (n % 40)) = List.replicate (n % 40) 48 from rep48u (n % 40)] at hrep
  refine hrep.mono ?_
  clear hrep
  rintro e w5 ⟨rfl, hb⟩
  have hB5 := hid (hB4.out.trans (hb.mono hB4.out.size))
  clear hb hB4
  rw [show (⟨(List.replicate (n % 40) (48 : UInt8)).toArray⟩ : ByteArray) = ⟨⟨List.replicate (n % 40) 48⟩⟩ from rfl]
  obtain ⟨R, hR⟩ : ∃ R : ByteArray, R = ⟨⟨List.replicate (n % 40) 48⟩⟩ := ⟨_, rfl⟩
  have hRs : R.size ≤ 39 := by
    rw [hR]
    show (List.replicate (n % 40) (48 : UInt8)).length ≤ 39
    rw [List.length_replicate]; omega
  rw [← hR] at hRv ⊢
  clear hR
  have c1 : (9223372036854775807 < R.size) = False := eq_false (by omega)
  have c2 : (9223372036854775807 < 1 + R.size) = False := eq_false (by omega)
  have c3 : (9223372036854775807 < 1 + R.size + D.length) = False := eq_false (by omega)
  have hRh := hid hRs
  clear hRs hSz
  go_wp2_with fail
  have hRs2 := hRh.out
  have hSz2 := hSh.out
  refine (word9 _ w5 ?_).mono ?_
  · rw [ByteArray.size_append, ByteArray.size_append, show (⟨#[45]⟩ : ByteArray).size = 1 from rfl, show (⟨⟨D⟩⟩ : ByteArray).size = D.length from rfl]
    omega
  rintro e w6 ⟨rfl, rfl⟩
  rw [hRv.out]
  go_wp2_with fail
  go_ret
  exact ⟨rfl, hB5.out⟩

theorem words_walk (x n : Nat) (hx : x < 4294967296) (hn : n < 256) (w : World) (ht : Tb w) :
    Calls Tryd.prog 4 #[.int .u32 x, .int .u8 n] w fun e w' => e = .returned (.bool true) ∧ Below w.heap.size w w' := by
  by_cases h : x < 2147483648
  · exact words_pos x n h hn w ht
  · exact words_neg x n h hx hn w ht
end Go.Proofs.YtmbdlhgclkbdiaaDoor
