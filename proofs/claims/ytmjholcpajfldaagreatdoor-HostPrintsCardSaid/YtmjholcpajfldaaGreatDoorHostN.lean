/- Walks: a name that may be, of both. No condition. -/
import Derived.Lib.ConvBytes
import Derived.Test.YtmjholcpajfldaaGreatDoorHostM
namespace Go.Proofs.YtmjholcpajfldaaGreatDoor
open Go.RowKit
set_option linter.unusedVariables false
set_option linter.unusedSimpArgs false

set_option maxRecDepth 100000

theorem conv9 (w : World) (s : ByteArray) : ∃ w1 cap, (convert 9 27 (.string s)).run Tryz.prog w = .ok (.slice (some ⟨w.heap.size, 0, none⟩) s.size cap) w1 ∧ Below w.heap.size w w1 ∧ ∀ j, j < s.size → w1.cell? ⟨w.heap.size, j, none⟩ = some (.int .u8 (s.data.toList.getD j 0).toNat) := by
  refine ⟨_, _, Lib.run_convert_string_bytes w 9 27 5 s Tryz.underlying9 Tryz.underlying27 Tryz.underlying5, ⟨rfl, rfl, rfl, by rw [Lib.bytesWorld_size]; omega, fun k hk => Lib.bytesWorld_at_old w 5 s k hk⟩, fun j hj => Lib.bytesWorld_cell w 5 s j hj⟩
/-- may it be a variable's name -/
def nmB (s : ByteArray) : Bool := decide (1 ≤ s.size) && (decide (s.size ≤ 32) && s.data.toList.all (· != 0))
theorem all_ne {l : List UInt8} (h : ∀ j, j < l.length → l.getD j 0 ≠ 0) : l.all (· != 0) = true := by
  rw [List.all_eq_true]
  intro x hx
  obtain ⟨j, hj, rfl⟩ := List.getElem_of_mem hx
  have := h j hj
  simpa [List.getD, List.getElem?_eq_getElem hj] using this
theorem all_no {l : List UInt8} {k : Nat} (hk : k < l.length) (h : l.getD k 0 = 0) : l.all (· != 0) = false := by
  rw [List.all_eq_false]
  refine ⟨l[k], List.getElem_mem hk, ?_⟩
  have : l[k] = 0 := by simpa [List.getD, List.getElem?_eq_getElem hk] using h
  simp [this]
set_option maxHeartbeats 4000000 in
theorem index94 (b n c : Nat) (l : List UInt8) (hl : l.length = n) (hn : n ≤ 1048576) (w : World) (hc : ∀ j, j < n → w.cell? ⟨b, j, none⟩ = some (.int .u8 (l.getD j 0).toNat)) :
    Calls Tryz.prog 94 #[.slice (some ⟨b, 0, none⟩) n c, .int .u8 0] w fun e w' => (∃ k : Int, e = .returned (.int .i64 k) ∧ (0 ≤ k) = (l.all (· != 0) = false)) ∧ w' = w := by
  have hC := hid hc
  clear hc
  go_enter Tryz.func94, Tryz.ntmps94
  go_wp2_with fail
  go_loopw [5, 8] (fun z i wr => ∃ (k : Nat), k ≤ n ∧ i = .int .i64 k ∧ wr = w ∧ Hid (∀ j, j < k → l.getD j 0 ≠ 0)) (fun _ i _ => n - (intOf i).toNat)
  case atStart => exact ⟨0, by omega, rfl, rfl, hid (fun j hj => by omega)⟩
  case round =>
    obtain ⟨k, hk, rfl, rfl, hz⟩ := hrel
    by_cases hlt : k < n
    · obtain ⟨x, hx⟩ : ∃ x, x = l.getD k 0 := ⟨_, rfl⟩
      have cx := hC.out k hlt
      rw [← hx] at cx
      by_cases h0 : x = 0
      · have hX := hid (hx.symm.trans h0)
        have cx0 : wr.cell? ⟨b, k, none⟩ = some (.int .u8 0) := by rw [cx, h0]; rfl
        clear hx h0 cx
        go_wp2_with fail
        go_ret
        refine ⟨⟨k, rfl, ?_⟩, rfl⟩
        rw [all_no (by omega) hX.out]
        simp
      · obtain ⟨xn, hxn⟩ : ∃ n : Nat, n = x.toNat := ⟨_, rfl⟩
        have hx1 : (xn = 0) = False := eq_false (fun h => h0 (UInt8.toNat_inj.1 (by simpa using hxn.symm.trans h)))
        have hx0 : ((xn : Int) = 0) = False := eq_false (fun h => by rw [← hx1]; omega)
        have hx2 : ((xn : Int) == 0) = false := by simp [hx1]
        have hx4 : xn ≠ 0 := fun h => by rw [← hx1]; exact h
        have hx3 : ((0 : Int) == (xn : Int)) = false := by rw [beq_eq_false_iff_ne]; omega
        clear hx4
        have hX := hid (show l.getD k 0 ≠ 0 from fun h => h0 (hx.trans h))
        rw [← hxn] at cx
        clear hx h0 hxn
        go_wp2_with fail
        refine ⟨⟨k + 1, by omega, by go_num, trivial, hid fun j hj => ?_⟩, by simp only [intOf]; omega⟩
        rcases Nat.lt_or_eq_of_le (Nat.le_of_lt_succ hj) with h1 | h1
        · exact hz.out j h1
        · subst h1; exact hX.out
    · obtain rfl : k = n := by omega
      go_wp2_with fail
      go_ret
      refine ⟨⟨-1, rfl, ?_⟩, rfl⟩
      rw [all_ne (fun j hj => hz.out j (by omega))]
      simp
theorem contains62 (b n c : Nat) (l : List UInt8) (hl : l.length = n) (hn : n ≤ 1048576) (w : World) (hc : ∀ j, j < n → w.cell? ⟨b, j, none⟩ = some (.int .u8 (l.getD j 0).toNat)) :
    Calls Tryz.prog 62 #[.slice (some ⟨b, 0, none⟩) n c, .int .u8 0] w fun e w' => e = .returned (.bool (!l.all (· != 0))) ∧ w' = w := by
  have ci := hid (index94 b n c l hl hn w hc)
  generalize l.all (· != 0) = ab at *
  clear hc
  go_enter Tryz.func62, Tryz.ntmps62
  go_wp2_with fail
  refine ci.out.mono ?_
  clear ci
  rintro e w1 ⟨⟨k, rfl, hk⟩, rfl⟩
  cases ab
  · have h1 : (0 ≤ k) = True := by rw [hk]; simp
    clear hk
    go_wp2_with fail
    go_ret
    simp [h1]
  · have h1 : (0 ≤ k) = False := by rw [hk]; simp
    clear hk
    go_wp2_with fail
    go_ret
    simp [h1]
set_option maxHeartbeats 4000000 in
theorem nameMay26 (s : ByteArray) (hs : s.size ≤ 1048576) (w : World) : Calls Tryz.prog 26 #[.string s] w fun e w' => e = .returned (.bool (nmB s)) ∧ Below w.heap.size w w' := by
  by_cases h1 : 1 ≤ s.size
  · by_cases h2 : s.size ≤ 32
    · obtain ⟨w1, cap, hcv, hb, hc⟩ := conv9 w s
      have cc := hid (contains62 w.heap.size s.size cap s.data.toList rfl hs w1 hc)
      have hn : Hid (nmB s = s.data.toList.all (· != 0)) := hid (by unfold nmB; simp [h1, h2])
      have hB := hid hb
      clear hc hb
      have e1 : ((1 : Int) ≤ (s.size : Int)) = True := eq_true (by omega)
      have e2 : ((s.size : Int) ≤ 32) = True := eq_true (by omega)
      go_enter Tryz.func26, Tryz.ntmps26
      go_wp2_with (go_at_call 62; refine cc.out.mono ?_; rintro e w2 ⟨rfl, rfl⟩)
      go_ret
      rw [hn.out]
      refine ⟨?_, hB.out⟩
      simp
    · have hn : Hid (nmB s = false) := hid (by unfold nmB; simp [h2])
      have e1 : ((1 : Int) ≤ (s.size : Int)) = True := eq_true (by omega)
      have e2 : ((s.size : Int) ≤ 32) = False := eq_false (by omega)
      go_enter Tryz.func26, Tryz.ntmps26
      go_wp2_with fail
      go_ret
      rw [hn.out]
      exact ⟨by simp [h2], Below.refl _ _⟩
  · have hn : Hid (nmB s = false) := hid (by unfold nmB; simp [h1])
    have e1 : ((1 : Int) ≤ (s.size : Int)) = False := eq_false (by omega)
    go_enter Tryz.func26, Tryz.ntmps26
    go_wp2_with fail
    go_ret
    rw [hn.out]
    exact ⟨by simp [h1], Below.refl _ _⟩
theorem getD_bytes (s : ByteArray) (k : Nat) (h : k < s.size) : s.data.toList.getD k 0 = s[k] := by
  have h' : k < s.data.toList.length := by simpa using h
  simp [List.getD, List.getElem?_eq_getElem h']
  rfl
set_option maxHeartbeats 4000000 in
theorem named10 (s : ByteArray) (w : World) : Calls Tryz.prog 10 #[.string s] w fun e w' => e = .returned (.bool (nmB s)) ∧ w' = w := by
  by_cases h1 : 1 ≤ s.size
  · by_cases h2 : s.size ≤ 32
    · have hn : Hid (nmB s = s.data.toList.all (· != 0)) := hid (by unfold nmB; simp [h1, h2])
      have e1 : ((s.size : Int) < 1) = False := eq_false (by omega)
      have e2 : ((32 : Int) < (s.size : Int)) = False := eq_false (by omega)
      obtain ⟨n, hnn⟩ : ∃ n, n = s.size := ⟨_, rfl⟩
      go_enter Tryz.func10, Tryz.ntmps10
      go_wp2_with fail
      go_loopw [3] (fun i wr => ∃ (k : Nat), k ≤ s.size ∧ i = .int .i64 k ∧ wr = w ∧ Hid (∀ j, j < k → s.data.toList.getD j 0 ≠ 0)) (fun i _ => s.size - (intOf i).toNat)
      case atStart => exact ⟨0, by omega, rfl, rfl, hid (fun j hj => by omega)⟩
      case round =>
        obtain ⟨k, hk, rfl, rfl, hz⟩ := hrel
        by_cases hlt : k < s.size
        · have hg := getD_bytes s k hlt
          cases hq : ((s[k].toNat : Int) == 0)
          · have hX := hid (show s.data.toList.getD k 0 ≠ 0 from fun h => by rw [hg] at h; rw [h] at hq; simp at hq)
            clear hg
            go_wp2_with fail
            refine ⟨⟨k + 1, by omega, by go_num, trivial, hid fun j hj => ?_⟩, by simp only [intOf]; omega⟩
            rcases Nat.lt_or_eq_of_le (Nat.le_of_lt_succ hj) with h1 | h1
            · exact hz.out j h1
            · subst h1; exact hX.out
          · have hX := hid (show s.data.toList.getD k 0 = 0 from by
              rw [hg]
              refine UInt8.toNat_inj.1 ?_
              have : (s[k].toNat : Int) = 0 := by simpa using hq
              simpa using this)
            clear hg
            go_wp2_with fail
            go_ret
            rw [hn.out, all_no (by simpa using hlt) hX.out]
            exact ⟨rfl, rfl⟩
        · obtain rfl : k = s.size := by omega
          go_wp2_with fail
          go_ret
          rw [hn.out, all_ne (fun j hj => hz.out j (by simpa using hj))]
          exact ⟨rfl, rfl⟩
    · have hn : Hid (nmB s = false) := hid (by unfold nmB; simp [h2])
      have e1 : ((s.size : Int) < 1) = False := eq_false (by omega)
      have e2 : ((32 : Int) < (s.size : Int)) = True := eq_true (by omega)
      go_enter Tryz.func10, Tryz.ntmps10
      go_wp2_with fail
      go_ret
      rw [hn.out]
      exact ⟨rfl, rfl⟩
  · have hn : Hid (nmB s = false) := hid (by unfold nmB; simp [h1])
    have e1 : ((s.size : Int) < 1) = True := eq_true (by omega)
    go_enter Tryz.func10, Tryz.ntmps10
    go_wp2_with fail
    go_ret
    rw [hn.out]
    exact ⟨rfl, rfl⟩

end Go.Proofs.YtmjholcpajfldaaGreatDoor
