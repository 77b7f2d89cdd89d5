/- Walks: bytes laid over; the order of two variables. No condition. -/
import Derived.Test.YtmjholcpajfldaaGreatDoorHostMf
namespace Go.Proofs.YtmjholcpajfldaaGreatDoor
open Go.RowKit
set_option linter.unusedVariables false
set_option linter.unusedSimpArgs false

set_option maxRecDepth 100000

def markB (k i : Int) : Int := bits BinOp.xor IntKind.u32
                              ((wrap64 (k + 2) % 4294967296 * 2654435761 + i % 4294967296 * 2246822519) % 4294967296)
                              ((wrap64 (k + 2) % 4294967296 * 2654435761 + i % 4294967296 * 2246822519) % 4294967296 /
                                32768) *
                            739982445 %
                          4294967296 /
                        16777216
theorem markB_bd (k i : Int) : 0 ≤ markB k i ∧ markB k i ≤ 255 := by unfold markB; omega

set_option maxHeartbeats 400000 in
theorem mark_any (k i : Int) (w : World) :
    Calls Tryz.prog 31 #[.int .i64 k, .int .i64 i] w fun e w' => e = .returned (.int .u8 (markB k i)) ∧ w = w' := by
  go_enter Tryz.func31, Tryz.ntmps31
  go_wp2
  go_ret
  exact ⟨rfl, rfl⟩
set_option maxHeartbeats 1000000 in
theorem over_any (g n cap base : Nat) (xs : List Value) (w : World) (hown : w.ownsRow base 5 1 (.slice (some ⟨g, 0, none⟩) n cap) n xs) (hl : n ≤ 140737488355328) :
    Calls Tryz.prog 19 #[.slice (some ⟨g, 0, none⟩) n cap] w fun e w' => e = .returned (.tuple #[]) ∧ w'.ownsRow base 5 1 (.slice (some ⟨g, 0, none⟩) n cap) n (((List.range n).map (fun i : Nat => markB (-1) i)).map (Value.int .u8)) ∧ w.grownBy w' (some g) := by
  have hlen : Hid (xs.length = n) := by have := hown.1; unfold Hid; simpa using this
  have hown0 := hid hown
  clear hown
  go_enter Tryz.func19, Tryz.ntmps19
  go_wp2
  go_loopw [2] (fun i wr => ∃ k : Nat, k ≤ n ∧ i = .int .i64 k ∧ wr.ownsRow base 5 1 (.slice (some ⟨g, 0, none⟩) n cap) n ((List.range k).map (fun i : Nat => Value.int .u8 (markB (-1) i)) ++ xs.drop k) ∧ w.grownBy wr (some g)) (fun i _ => n - (intOf i).toNat)
  case atStart => exact ⟨0, Nat.zero_le _, rfl, by simpa using hown0.out, grown_refl _ _⟩
  case round =>
    obtain ⟨k, hk, rfl, hown, hg⟩ := hrel
    have hO := hid hown
    clear hown
    by_cases hlt : k < n
    · have hfr := hO.out.frozenAt k
      have hce := hO.out.cellAt k (by omega)
      rw [List.getElem?_append_right (by simp), List.length_map, List.length_range, Nat.sub_self, List.getElem?_drop, Nat.add_zero, List.getElem?_eq_getElem (by rw [hlen.out]; exact hlt)] at hce
      have hst := hid (hO.out.stored k (.int .u8 (markB (-1) k)))
      have hS := hid (set_at (fun i : Nat => Value.int .u8 (markB (-1) i)) xs k (by rw [hlen.out]; exact hlt))
      generalize xs[k]'(by rw [hlen.out]; exact hlt) = u at *
      go_wp2_with (go_at_call 31; go_must (refine (mark_any _ _ _).mono ?_); rintro e w' ⟨rfl, rfl⟩)
      go_roundw
      case rel => exact ⟨k + 1, by omega, by go_num, by have := hst.out.1; rw [hS.out] at this; exact this, grown_trans hg hst.out.2⟩
      case measure => simp [intOf]; omega
    · obtain rfl : k = n := by omega
      go_wp2_with fail
      go_end0
      exact ⟨rfl, by have := hO.out; rw [List.drop_eq_nil_of_le (by rw [hlen.out]; omega), List.append_nil] at this; rw [List.map_map]; exact this, hg⟩
theorem nan65 (a : ByteArray) (w : World) : Calls Tryz.prog 65 #[.string a] w fun e w' => e = .returned (.bool false) ∧ w = w' := by
  go_enter Tryz.func65, Tryz.ntmps65
  go_wp2_with fail
  go_ret
  simp
/-- the order of two names -/
def cmpN (a b : ByteArray) : Int := if Op.bytesLess a.toList b.toList then -1 else if Op.bytesLess b.toList a.toList then 1 else 0
theorem cmp34 (a b : ByteArray) (w : World) : Calls Tryz.prog 34 #[.string a, .string b] w fun e w' => e = .returned (.int .i64 (cmpN a b)) ∧ w = w' := by
  cases h1 : Op.bytesLess a.toList b.toList
  · cases h2 : Op.bytesLess b.toList a.toList
    · have hn : Hid (cmpN a b = 0) := hid (by unfold cmpN; simp [h1, h2])
      have h3 : (a.toList == b.toList) = true := by
        rcases less_yes h2 with h | h
        · rw [h1] at h; cases h
        · exact h.2
      go_enter Tryz.func34, Tryz.ntmps34
      go_wp2_with (go_at_call 65; refine (nan65 _ _).mono ?_; rintro e w1 ⟨rfl, rfl⟩)
      go_ret
      rw [hn.out]
      exact ⟨rfl, rfl⟩
    · have hn : Hid (cmpN a b = 1) := hid (by unfold cmpN; simp [h1, h2])
      have h3 := (less_no h2).2
      go_enter Tryz.func34, Tryz.ntmps34
      go_wp2_with (go_at_call 65; refine (nan65 _ _).mono ?_; rintro e w1 ⟨rfl, rfl⟩)
      go_ret
      rw [hn.out]
      exact ⟨rfl, rfl⟩
  · have hn : Hid (cmpN a b = -1) := hid (by unfold cmpN; simp [h1])
    go_enter Tryz.func34, Tryz.ntmps34
    go_wp2_with (go_at_call 65; refine (nan65 _ _).mono ?_; rintro e w1 ⟨rfl, rfl⟩)
    go_ret
    rw [hn.out]
    exact ⟨rfl, rfl⟩
theorem state33 (a b : ByteArray) (x y : Int) (w : World) : Calls Tryz.prog 33 #[.agg #[.string a, .int .u32 x], .agg #[.string b, .int .u32 y]] w fun e w' => e = .returned (.int .i64 (cmpN a b)) ∧ Below w.heap.size w w' := by
  have hB := hid (((Below.refl w.heap.size w).alloc (Nat.le_refl _) (.cells #[.string a, .int .u32 x] 77)).alloc (by simp) (.cells #[.string b, .int .u32 y] 77))
  go_enter Tryz.func33, Tryz.ntmps33
  go_wp2_with (go_at_call 34; refine (cmp34 _ _ _).mono ?_; rintro e w1 ⟨rfl, rfl⟩)
  go_ret
  exact ⟨rfl, hB.out⟩

end Go.Proofs.YtmjholcpajfldaaGreatDoor
