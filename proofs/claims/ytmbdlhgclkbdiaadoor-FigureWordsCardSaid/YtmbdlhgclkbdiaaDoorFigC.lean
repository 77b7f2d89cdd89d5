/- Walks: numbers to the base 16. -/
import Derived.Test.YtmbdlhgclkbdiaaDoorFigB
import Derived.Laws.Bits64b
import Derived.Laws.IdiomStrings
namespace Go.Proofs.YtmbdlhgclkbdiaaDoor
open Go.RowKit
set_option linter.unusedVariables false
set_option linter.unusedSimpArgs false

def hd (d : Nat) : Nat := if d < 10 then 48 + d else 87 + d
def hexL (u : Nat) : List Int := if h : u < 16 then [(hd u : Int)] else hexL (u / 16) ++ [(hd (u % 16) : Int)]
termination_by u
decreasing_by omega
theorem hexL_small {u : Nat} (h : u < 16) : hexL u = [(hd u : Int)] := by rw [hexL, dif_pos h]
theorem hexL_big {u : Nat} (h : 16 ≤ u) : hexL u = hexL (u / 16) ++ [(hd (u % 16) : Int)] := by rw [hexL, dif_neg (by omega)]
theorem hexL_bd : ∀ (u : Nat) (z : Int), z ∈ hexL u → 48 ≤ z ∧ z ≤ 102 := by
  intro u
  induction u using Nat.strongRecOn with
  | _ u ih =>
    intro z hz
    by_cases h : u < 16
    · rw [hexL_small h, List.mem_singleton] at hz
      subst hz
      unfold hd
      split <;> omega
    · rw [hexL_big (by omega)] at hz
      rcases List.mem_append.1 hz with h1 | h1
      · exact ih (u / 16) (by omega) z h1
      · rw [List.mem_singleton] at h1
        subst h1
        have : u % 16 < 16 := Nat.mod_lt _ (by decide)
        unfold hd
        split <;> omega
theorem hd_bd (d : Nat) (h : d < 16) : 48 ≤ hd d ∧ hd d ≤ 102 := by unfold hd; split <;> omega

set_option maxHeartbeats 1000000 in
set_option maxRecDepth 100000 in
theorem tz43 (w : World) (hc : w.cell? ⟨3, 15, none⟩ = some (.int .u8 4)) : Calls Tryd.prog 43 #[.int .u64 16] w fun e w' => e = .returned (.int .i64 4) ∧ w' = w := by
  have key : IntKind.u64.wrap (bits BinOp.and IntKind.u64 (16 : Int) (IntKind.u64.wrap (-(16 : Int))) * 285870213051353865) / 288230376151711744 = (15 : Int) := by decide
  go_enter Tryd.func43, Tryd.ntmps43
  go_wp2_with (simp only [key])
  go_ret
  exact ⟨rfl, rfl⟩

def ZC : Array Value := Array.replicate 65 (.int .u8 0)
theorem ZC_ne : ¬ ZC = #[] := fun h => by have := congrArg Array.size h; simp [ZC] at this
theorem zv71 (w : World) : Sem.run Tryd.prog (zeroValue 71) w = .ok (.agg ZC) w := by kernel_rfl

set_option maxHeartbeats 1000000 in
theorem pow40 (w : World) : Calls Tryd.prog 40 #[.int .i64 16] w fun e w' => e = .returned (.bool true) ∧ w' = w := by
  go_enter Tryd.func40, Tryd.ntmps40
  go_wp2_with fail
  go_ret
  exact ⟨rfl, rfl⟩
set_option maxHeartbeats 1000000 in
theorem tz41 (w : World) (hc : w.cell? ⟨3, 15, none⟩ = some (.int .u8 4)) : Calls Tryd.prog 41 #[.int .u64 16] w fun e w' => e = .returned (.int .i64 4) ∧ w' = w := by
  have h := hid (tz43 w hc)
  clear hc
  go_enter Tryd.func41, Tryd.ntmps41
  go_wp2_with fail
  refine h.out.mono ?_
  rintro e w' ⟨rfl, rfl⟩
  go_wp2_with fail
  go_ret
  exact ⟨rfl, rfl⟩

theorem sl71 (W : World) (q k : Nat) (l : Int) (hl : l = k) (hk : k < 65) : (Instr.sliceAt 71 (.pointer (some ⟨q, 0, none⟩)) (some (.int .i64 l)) none none).run Tryd.prog W = .ok (.slice (some ⟨q, k, none⟩) (65 - k) (65 - k)) W := by
  have hal : Tryd.prog.arrayLen 71 = 65 := by simp [Program.arrayLen, Tryd.underlying71]
  subst hl
  rw [run_sliceAt_array_l W 71 ⟨q, 0, none⟩ (by simp [Program.arrayLen, Program.elem, Tryd.underlying71]) .i64 (k : Int) (by omega) (by rw [hal]; omega), hal]
  go_simp
  omega
theorem lit36 : ∀ (d : Nat), d < 16 → ∀ h', (((⟨#[48, 49, 50, 51, 52, 53, 54, 55, 56, 57, 97, 98, 99, 100, 101, 102, 103, 104, 105, 106, 107, 108, 109, 110, 111, 112, 113, 114, 115, 116, 117, 118, 119, 120, 121, 122]⟩ : ByteArray)[d]'h').toNat : Int) = (hd d : Int)
  | 0, _, _ => rfl
  | 1, _, _ => rfl
  | 2, _, _ => rfl
  | 3, _, _ => rfl
  | 4, _, _ => rfl
  | 5, _, _ => rfl
  | 6, _, _ => rfl
  | 7, _, _ => rfl
  | 8, _, _ => rfl
  | 9, _, _ => rfl
  | 10, _, _ => rfl
  | 11, _, _ => rfl
  | 12, _, _ => rfl
  | 13, _, _ => rfl
  | 14, _, _ => rfl
  | 15, _, _ => rfl
  | d + 16, h, _ => absurd h (by omega)
/-- what is written so far -/
def HX (u0 u : Nat) (ds : List Int) : Prop := hexL u0 = hexL u ++ ds
theorem HX.step {u0 u : Nat} {ds : List Int} (h : HX u0 u ds) (hu : 16 ≤ u) : HX u0 (u / 16) ((hd (u % 16) : Int) :: ds) := by
  unfold HX at h ⊢
  rw [h, hexL_big hu, List.append_assoc]
  rfl

set_option maxHeartbeats 1000000 in
set_option maxRecDepth 100000 in
theorem fmt34 (u0 : Nat) (hu : u0 < 4294967296) (w : World) (hc : w.cell? ⟨3, 15, none⟩ = some (.int .u8 4)) :
    Calls Tryd.prog 34 #[.slice none 0 0, .int .u64 u0, .int .i64 16, .bool false, .bool false] w fun e w' => e = .returned (.tuple #[.slice none 0 0, .string ⟨((hexL u0).map (fun z => UInt8.ofNat z.toNat)).toArray⟩]) ∧ Below w.heap.size w w' := by
  have hlt3 := World.block_lt_of_cell? w _ hc
  have hC := hid hc
  clear hc
  have hzv := zv71 w
  have hzn := ZC_ne
  have hO : Hid ((w.alloc (.cells ZC 71)).ownsRow w.heap.size 71 1 (.slice (some ⟨w.heap.size, 0, none⟩) 65 65) 65 ZC.toList) := by
    have := World.ownsRow_lit (e := 71) (size := 1) w ZC 65 (Nat.le_refl _) (by decide) (by simp [ZC])
    exact this
  have hB := hid ((Below.refl w.heap.size w).alloc (Nat.le_refl _) (.cells ZC 71))
  have hC1 : Hid ((w.alloc (.cells ZC 71)).cell? ⟨3, 15, none⟩ = some (.int .u8 4)) := (hB.out.cell hlt3).trans hC.out
  obtain ⟨wa, hwa⟩ : ∃ wa, wa = w.alloc (.cells ZC 71) := ⟨_, rfl⟩
  rw [← hwa] at hO hB hC1
  go_enter Tryd.func34, Tryd.ntmps34
  go_wp2_with fail
  rw [← hwa]
  clear hwa
  clear hzv hzn
  refine (pow40 wa).mono ?_
  rintro e w' ⟨rfl, rfl⟩
  go_wp2_with fail
  refine (tz41 _ hC1.out).mono ?_
  rintro e w' ⟨rfl, rfl⟩
  have hq := hB.out.size
  go_wp2_with fail
  go_loopw [1, 13] (fun a i wr => ∃ (u : Nat) (ds : List Int) (xs : List Value), a = .int .u64 u ∧ i = .int .i64 (65 - (ds.length : Int)) ∧ HX u0 u ds ∧ u * 16 ^ ds.length ≤ u0 ∧ (u = 0 → ds = []) ∧ wr.ownsRow w.heap.size 71 1 (.slice (some ⟨w.heap.size, 0, none⟩) 65 65) 65 xs ∧ xs.drop (65 - ds.length) = ds.map (Value.int .u8) ∧ ds.length ≤ 8 ∧ Below w.heap.size w wr) (fun a _ _ => (intOf a).toNat)
  case atStart => exact ⟨u0, [], ZC.toList, rfl, rfl, by simp [HX], by simp, fun _ => rfl, hO.out, by simp [ZC], by simp, hB.out⟩
  case round =>
    clear hO hB hC1 hq
    obtain ⟨u, ds, xs, rfl, rfl, hx, hle, huz, ho, hds, hl8, hb⟩ := hrel
    have hX := hid hx
    have hLe := hid hle
    have hO := hid ho
    have hDs := hid hds
    have hB := hid hb
    clear hx hle ho hds hb
    have hub : u < 4294967296 := by
      have h1 : 0 < 16 ^ ds.length := Nat.pow_pos (by decide)
      have := Nat.le_mul_of_pos_right u h1
      have := hLe.out
      omega
    by_cases h16 : 16 ≤ u
    · have hq : ((16 : Int) ≤ (u : Int)) = True := eq_true (by omega)
      have hand : bits BinOp.and IntKind.u64 (u : Int) 15 = ((u % 16 : Nat) : Int) := by
        have := bits_and_u64_nat u 15 (by omega) (by decide)
        rw [show ((15 : Nat) : Int) = 15 from rfl] at this
        rw [this, show (15 : Nat) = 2 ^ 4 - 1 from rfl, Nat.and_two_pow_sub_one_eq_mod]
      have hw1 : IntKind.i64.wrap (65 - (ds.length : Int) - 1) = 65 - (ds.length : Int) - 1 := IntWalk.i64_in _ (by omega)
      have hk7 : Hid (ds.length ≤ 7) := by
        rcases Nat.lt_or_ge 7 ds.length with h | h
        · have h1 := Nat.pow_le_pow_right (n := 16) (by decide) h
          have h2 := Nat.mul_le_mul_right (16 ^ ds.length) (show 1 ≤ u by omega)
          have := hLe.out
          omega
        · exact h
      obtain ⟨v0, hcx⟩ : ∃ v0, wr.cell? ⟨w.heap.size, 65 - ds.length - 1, none⟩ = some v0 := ⟨_, (hO.out.cellAt (65 - ds.length - 1) (by omega)).trans (List.getElem?_eq_getElem (by have := hO.out.1; omega))⟩
      have hfz := hO.out.frozenAt (65 - ds.length - 1)
      have hst := hid (fun v => (hO.out.stored (65 - ds.length - 1) v).1)
      have hpw : Hid (u / 16 * 16 ^ ((hd (u % 16) : Int) :: ds).length ≤ u0) := by
        unfold Hid
        rw [List.length_cons, Nat.pow_succ, Nat.mul_comm (16 ^ ds.length) 16, ← Nat.mul_assoc]
        exact Nat.le_trans (Nat.mul_le_mul_right _ (Nat.div_mul_le_self u 16)) hLe.out
      have hXs := hid (hX.out.step h16)
      have hdr : Hid ((xs.set (65 - ds.length - 1) (.int .u8 (hd (u % 16) : Int))).drop (65 - ((hd (u % 16) : Int) :: ds).length) = ((hd (u % 16) : Int) :: ds).map (Value.int .u8)) := by
        have hlx := hO.out.1
        have h7 := hk7.out
        unfold Hid
        rw [List.length_cons, show 65 - (ds.length + 1) = 65 - ds.length - 1 by omega, List.drop_eq_getElem_cons (by rw [List.length_set]; omega), List.getElem_set_self, List.drop_set_of_lt (by omega), show 65 - ds.length - 1 + 1 = 65 - ds.length by omega, hDs.out]
        rfl
      clear hC
      go_wp2_with fail
      go_roundw
      case rel =>
        refine ⟨u / 16, (hd (u % 16) : Int) :: ds, _, by go_num, by simp; omega, hXs.out, hpw.out, fun h => by omega, ?_, hdr.out, by have := hk7.out; simp; omega, Below.setCell hB.out (Nat.le_refl _) _⟩
        rw [lit36 _ (Nat.mod_lt _ (by decide))]
        exact hst.out _
      case measure => simp [intOf]; omega
    · have hq : ((16 : Int) ≤ (u : Int)) = False := eq_false (by omega)
      have hw1 : IntKind.i64.wrap (65 - (ds.length : Int) - 1) = 65 - (ds.length : Int) - 1 := IntWalk.i64_in _ (by omega)
      obtain ⟨v0, hcx⟩ : ∃ v0, wr.cell? ⟨w.heap.size, 65 - ds.length - 1, none⟩ = some v0 := ⟨_, (hO.out.cellAt (65 - ds.length - 1) (by omega)).trans (List.getElem?_eq_getElem (by have := hO.out.1; omega))⟩
      have hfz := hO.out.frozenAt (65 - ds.length - 1)
      have hk7 : ds.length ≤ 7 := by
        by_cases hu0 : u = 0
        · rw [huz hu0]; simp
        · rcases Nat.lt_or_ge 7 ds.length with h | h
          · have h1 := Nat.pow_le_pow_right (n := 16) (by decide) h
            have h2 := Nat.mul_le_mul_right (16 ^ ds.length) (show 1 ≤ u by omega)
            have := hLe.out
            omega
          · exact h
      have hst := hid (fun v => (hO.out.stored (65 - ds.length - 1) v).1)
      have hl36 : ∀ h', ((⟨#[48, 49, 50, 51, 52, 53, 54, 55, 56, 57, 97, 98, 99, 100, 101, 102, 103, 104, 105, 106, 107, 108, 109, 110, 111, 112, 113, 114, 115, 116, 117, 118, 119, 120, 121, 122]⟩ : ByteArray)[u]'h').toNat = hd u := fun h' => by have := lit36 u (by omega) h'; omega
      have hsl := fun W => sl71 W w.heap.size (65 - ds.length - 1) (65 - (ds.length : Int) - 1) (by omega) (by omega)
      have hXu := hid (show hexL u0 = (hd u : Int) :: ds from by
        have := hX.out
        unfold HX at this
        rw [this, hexL_small (by omega)]
        rfl)
      have hall : Hid (∀ z ∈ (hd u : Int) :: ds, 0 ≤ z ∧ z ≤ 255) := fun z hz => by
        have := hexL_bd u0 z (by rw [hXu.out]; exact hz)
        omega
      have hdr : Hid ((xs.set (65 - ds.length - 1) (.int .u8 (hd u : Int))).drop (65 - ds.length - 1) = ((hd u : Int) :: ds).map (Value.int .u8)) := by
        have hlx := hO.out.1
        unfold Hid
        rw [List.drop_eq_getElem_cons (by rw [List.length_set]; omega), List.getElem_set_self, List.drop_set_of_lt (by omega), show 65 - ds.length - 1 + 1 = 65 - ds.length by omega, hDs.out]
        rfl
      have hcv : (convert 43 9 (.slice (some ⟨w.heap.size, 65 - ds.length - 1, none⟩) (65 - (65 - ds.length - 1)) (65 - (65 - ds.length - 1)))).run Tryd.prog (wr.setCell ⟨w.heap.size, 65 - ds.length - 1, none⟩ (.int .u8 (hd u : Int))) = .ok (.string ⟨((hexL u0).map (fun z => UInt8.ofNat z.toNat)).toArray⟩) (wr.setCell ⟨w.heap.size, 65 - ds.length - 1, none⟩ (.int .u8 (hd u : Int))) := by
        rw [hXu.out]
        have h := run_convert_bytes_back (P := Tryd.prog) (wr.setCell ⟨w.heap.size, 65 - ds.length - 1, none⟩ (.int .u8 (hd u : Int))) 43 9 5 ⟨w.heap.size, 65 - ds.length - 1, none⟩ (65 - (65 - ds.length - 1)) (((hd u : Int) :: ds).map (fun z => UInt8.ofNat z.toNat)) Tryd.underlying43 Tryd.underlying5 Tryd.underlying9 (fun j hj => by
          have hj' : j < ((hd u : Int) :: ds).length := by simpa using hj
          have hjl : j < ds.length + 1 := by simpa using hj'
          have h1 := (hst.out (.int .u8 (hd u : Int))).cellAt (65 - ds.length - 1 + j) (by omega)
          rw [show (⟨w.heap.size, 65 - ds.length - 1, none⟩ : Addr).add j = ⟨w.heap.size, 65 - ds.length - 1 + j, none⟩ by unfold Addr.add; split <;> simp_all, h1, ← List.getElem?_drop, hdr.out, List.getElem?_map, List.getElem?_eq_getElem hj', Option.map_some]
          have h2 := hall.out _ (List.getElem_mem hj')
          rw [List.getElem_map]
          generalize ((hd u : Int) :: ds)[j] = z at *
          congr 2
          rw [UInt8.toNat_ofNat', Nat.mod_eq_of_lt (by omega)]
          omega)
        rw [List.length_map, List.length_cons] at h
        rw [show 65 - (65 - ds.length - 1) = ds.length + 1 by omega] at h ⊢
        exact h
      clear hC huz
      go_wp2_with fail
      go_ret2
      exact ⟨rfl, Below.setCell hB.out (Nat.le_refl _) _⟩
end Go.Proofs.YtmbdlhgclkbdiaaDoor
