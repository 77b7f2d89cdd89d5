/- Walks: Hex, of the program and of the document. -/
import Derived.Test.YtmbdlhgclkbdiaaDoorFigC
namespace Go.Proofs.YtmbdlhgclkbdiaaDoor
open Go.RowKit
set_option linter.unusedVariables false
set_option linter.unusedSimpArgs false

def hexFix : Nat → Nat → List Int
  | 0, _ => []
  | k + 1, u => hexFix k (u / 16) ++ [(hd (u % 16) : Int)]
theorem hexFix_len : ∀ k u, (hexFix k u).length = k
  | 0, _ => rfl
  | k + 1, u => by rw [hexFix, List.length_append, hexFix_len k]; rfl
theorem hexFix_front : ∀ k u, hexFix (k + 1) u = (hd (u / 16 ^ k % 16) : Int) :: hexFix k u
  | 0, u => by simp [hexFix]
  | k + 1, u => by
    rw [hexFix, hexFix_front k (u / 16), Nat.div_div_eq_div_mul, show 16 * 16 ^ k = 16 ^ (k + 1) by rw [Nat.pow_succ, Nat.mul_comm]]
    rfl
theorem hexL_len : ∀ k u, u < 16 ^ (k + 1) → (hexL u).length ≤ k + 1
  | 0, u, h => by rw [hexL_small (by simpa using h)]; simp
  | k + 1, u, h => by
    by_cases h1 : u < 16
    · rw [hexL_small h1]; simp
    · rw [hexL_big (by omega), List.length_append]
      have := hexL_len k (u / 16) (by rw [Nat.pow_succ] at h; omega)
      simp; omega
theorem hex_pad : ∀ k u, u < 16 ^ (k + 1) → hexFix (k + 1) u = List.replicate (k + 1 - (hexL u).length) 48 ++ hexL u
  | 0, u, h => by
    have h1 : u < 16 := by simpa using h
    rw [hexL_small h1]
    simp [hexFix, Nat.mod_eq_of_lt h1]
  | k + 1, u, h => by
    rw [hexFix]
    by_cases h1 : u < 16
    · rw [hex_pad k (u / 16) (by rw [Nat.div_eq_of_lt h1]; exact Nat.pow_pos (by decide)), Nat.div_eq_of_lt h1, hexL_small (show 0 < 16 by decide), hexL_small h1, Nat.mod_eq_of_lt h1]
      simp only [List.length_singleton, Nat.add_sub_cancel]
      rw [List.replicate_succ']
      rfl
    · rw [hex_pad k (u / 16) (by rw [Nat.pow_succ] at h; omega), hexL_big (u := u) (by omega), List.length_append, List.length_singleton, List.append_assoc, show k + 1 + 1 - ((hexL (u / 16)).length + 1) = k + 1 - (hexL (u / 16)).length by omega]

def b8 (l : List Int) : ByteArray := ⟨(l.map (fun z => UInt8.ofNat z.toNat)).toArray⟩
def hexT (x : Nat) : ByteArray := b8 (48 :: 120 :: hexFix 8 x)
theorem b8_append (l r : List Int) : b8 l ++ b8 r = b8 (l ++ r) := by
  unfold b8
  apply ByteArray.ext
  simp
theorem b8_size (l : List Int) : (b8 l).size = l.length := by simp [b8, ByteArray.size]

set_option maxHeartbeats 1000000 in
set_option maxRecDepth 100000 in
theorem fmt14 (u0 : Nat) (hu : u0 < 4294967296) (w : World) (hc : w.cell? ⟨3, 15, none⟩ = some (.int .u8 4)) :
    Calls Tryd.prog 14 #[.int .u64 u0, .int .i64 16] w fun e w' => e = .returned (.string (b8 (hexL u0))) ∧ Below w.heap.size w w' := by
  have h34 := hid (fmt34 u0 hu w hc)
  have h23 : Hid (Calls Tryd.prog 23 #[.int .u64 u0, .int .i64 16] w fun e w' => e = .returned (.string (b8 (hexL u0))) ∧ Below w.heap.size w w') := by
    clear hc
    go_enter Tryd.func23, Tryd.ntmps23
    go_wp2_with fail
    refine h34.out.mono ?_
    rintro e w' ⟨rfl, hb⟩
    have hB := hid hb
    clear hb
    go_wp2_with fail
    go_ret
    exact ⟨rfl, hB.out⟩
  clear hc h34
  go_enter Tryd.func14, Tryd.ntmps14
  go_wp2_with fail
  refine h23.out.mono ?_
  rintro e w' ⟨rfl, hb⟩
  have hB := hid hb
  clear hb
  go_wp2_with fail
  go_ret
  exact ⟨rfl, hB.out⟩

theorem rep48 : ∀ c, (Lib.repeatL [48] c) = (List.replicate c (48 : Int)).map (fun z => UInt8.ofNat z.toNat)
  | 0 => rfl
  | c + 1 => by rw [Lib.repeatL, rep48 c, List.replicate_succ]; rfl

set_option maxHeartbeats 1000000 in
set_option maxRecDepth 100000 in
theorem hex7 (x : Nat) (hx : x < 4294967296) (w : World) (hc : w.cell? ⟨3, 15, none⟩ = some (.int .u8 4)) :
    Calls Tryd.prog 7 #[.int .u32 x] w fun e w' => e = .returned (.string (hexT x)) ∧ Below w.heap.size w w' := by
  have h14 := hid (fmt14 x hx w hc)
  have hl8 := hexL_len 7 x (by simpa using hx)
  have hpad := hid (hex_pad 7 x (by simpa using hx))
  have hT : Hid (hexT x = (b8 [48, 120] ++ b8 (List.replicate (8 - (hexL x).length) 48)) ++ b8 (hexL x)) := by
    unfold Hid hexT
    rw [hpad.out, b8_append, b8_append]
    simp
  clear hc
  have hw1 : IntKind.u64.wrap (x : Int) = x := by rw [IntKind.wrap_u64]; omega
  obtain ⟨n, hn⟩ : ∃ n, n = (hexL x).length := ⟨_, rfl⟩
  have hsz : (b8 (hexL x)).size = n := by rw [b8_size, hn]
  have hw2 : IntKind.i64.wrap (8 - (n : Int)) = 8 - (n : Int) := IntWalk.i64_in _ (by omega)
  have hnn : Hid (n = (hexL x).length) := hn
  rw [← hn] at hl8 hT
  clear hn
  go_enter Tryd.func7, Tryd.ntmps7
  go_wp2_with fail
  refine h14.out.mono ?_
  clear h14
  rintro e w1 ⟨rfl, hb⟩
  have hB := hid hb
  clear hb
  go_wp2_with fail
  have hrep := Tryd.strings_Repeat ⟨#[48]⟩ (8 - n) w1 (by omega) (by show 1 * (8 - n) ≤ _; omega)
  rw [show (((8 - n : Nat)) : Int) = 8 - (n : Int) by omega, show (Lib.repeatL (⟨#[48]⟩ : ByteArray).data.toList (8 - n)) = (List.replicate (8 - n) (48 : Int)).map (fun z => UInt8.ofNat z.toNat) from rep48 (8 - n)] at hrep
  refine hrep.mono ?_
  clear hrep
  rintro e w2 ⟨rfl, hb⟩
  have hB2 := hid (hB.out.trans (hb.mono hB.out.size))
  clear hb hB
  have hsz2 : (b8 (List.replicate (8 - n) 48)).size = 8 - n := by rw [b8_size, List.length_replicate]
  have hZ : (⟨((List.replicate (8 - n) (48 : Int)).map (fun z => UInt8.ofNat z.toNat)).toArray⟩ : ByteArray) = b8 (List.replicate (8 - n) 48) := rfl
  rw [hZ]
  obtain ⟨Z, hZZ⟩ : ∃ Z, Z = b8 (List.replicate (8 - n) 48) := ⟨_, rfl⟩
  obtain ⟨Y, hYY⟩ : ∃ Y, Y = b8 (hexL x) := ⟨_, rfl⟩
  rw [← hZZ] at hsz2 hT ⊢
  rw [← hYY] at hsz hT ⊢
  have h2 : b8 [48, 120] = ⟨#[48, 120]⟩ := rfl
  rw [h2] at hT
  have c1 : (9223372036854775807 < 2 + Z.size) = False := eq_false (by omega)
  have c2 : (9223372036854775807 < ((⟨#[48, 120]⟩ : ByteArray) ++ Z).size + Y.size) = False := eq_false (by rw [ByteArray.size_append]; show ¬ _ < 2 + Z.size + Y.size; omega)
  have c3 : (9223372036854775807 < 2 + Z.size + Y.size) = False := eq_false (by omega)
  clear hZ hZZ hYY h2 hsz hsz2
  go_wp2_with fail
  go_ret
  exact ⟨by rw [hT.out]; rfl, hB2.out⟩
end Go.Proofs.YtmbdlhgclkbdiaaDoor
