/- Walks: the text at the beginning of a memory; a name that may be. No condition. -/
import Derived.Test.YtmjholcpajfldaaGreatDoorHostL
namespace Go.Proofs.YtmjholcpajfldaaGreatDoor
open Go.RowKit
set_option linter.unusedVariables false
set_option linter.unusedSimpArgs false

set_option maxRecDepth 100000

theorem read111 {w : World} {q B : Nat} {l : List UInt8} (h : Me w q B l) :
    Calls Tryz.prog 111 #[.pointer (some ⟨q, 0, none⟩), .int .u32 0, .int .i64 256] w fun e w' => ∃ g, e = .returned (.tuple #[.slice (some ⟨g, 0, none⟩) 256 256, .int .i64 0]) ∧ Bx w' g (bv l).toArray 5 ∧ Below w.heap.size w w' := by
  have c1 := hid (made144 h)
  have c2 := hid (read145 h)
  clear h
  go_enter Tryz.func111, Tryz.ntmps111
  go_wp2_with (go_at_call 144; refine c1.out.mono ?_; rintro e w1 ⟨rfl, rfl⟩)
  refine c2.out.mono ?_
  rintro e w2 ⟨g, rfl, hg, hb⟩
  have hG := hid hg
  have hB := hid hb
  clear c1 c2 hg hb
  go_wp2_with fail
  go_ret2
  exact ⟨g, rfl, hG.out, hB.out⟩
/-- bytes ahead of the first nought -/
def txt (l : List UInt8) : List UInt8 := l.takeWhile (· != 0)
theorem txt_at {l : List UInt8} {k : Nat} (h0 : ∀ j, j < k → l.getD j 0 ≠ 0) (hk : k < l.length) (hz : l.getD k 0 = 0) : txt l = l.take k := by
  unfold txt
  induction l generalizing k with
  | nil => simp at hk
  | cons a r ih =>
    cases k with
    | zero =>
      have : a = 0 := by simpa using hz
      simp [this]
    | succ k =>
      have h1 := h0 0 (by omega)
      have h2 : (a != 0) = true := by simpa using h1
      rw [List.takeWhile_cons, if_pos h2, List.take_succ_cons]
      congr 1
      exact ih (fun j hj => by simpa using h0 (j + 1) (by omega)) (by simpa using hk) (by simpa using hz)
theorem txt_all {l : List UInt8} (h0 : ∀ j, j < l.length → l.getD j 0 ≠ 0) : txt l = l := by
  unfold txt
  induction l with
  | nil => rfl
  | cons a r ih =>
    have h1 := h0 0 (by simp)
    have h2 : (a != 0) = true := by simpa using h1
    rw [List.takeWhile_cons, if_pos h2]
    congr 1
    exact ih (fun j hj => by simpa using h0 (j + 1) (by simpa using hj))
theorem conv_take {w : World} {g : Nat} {l : List UInt8} (hb : Bx w g (bv l).toArray 5) (k c : Nat) (hk : k ≤ l.length) : (convert 27 9 (.slice (some ⟨g, 0, none⟩) k c)).run Tryz.prog w = .ok (.string ⟨(l.take k).toArray⟩) w := by
  have := run_convert_bytes_back (P := Tryz.prog) w 27 9 5 ⟨g, 0, none⟩ c (l.take k) Tryz.underlying27 Tryz.underlying5 Tryz.underlying9 (fun j hj => by
    rw [List.length_take] at hj
    rw [show (⟨g, 0, none⟩ : Addr).add j = ⟨g, j, none⟩ by unfold Addr.add; split <;> simp_all, hb.cell j]
    simp [bv, List.getElem?_eq_getElem (show j < l.length by omega)])
  rw [List.length_take, Nat.min_eq_left hk] at this
  exact this
set_option maxHeartbeats 4000000 in
theorem text68 {w : World} {q B : Nat} {l : List UInt8} (h : Me w q B l) (av : Value) (hav : ∃ ao n c, av = .slice ao n c) :
    Calls Tryz.prog 68 #[.agg #[.pointer (some ⟨q, 0, none⟩), av], .int .u32 0] w fun e w' => e = .returned (.string ⟨(txt l).toArray⟩) ∧ Below w.heap.size w w' := by
  obtain ⟨ao, n, c, rfl⟩ := hav
  have b0 := hid ((Below.refl w.heap.size w).alloc (Nat.le_refl _) (.cells #[.pointer (some ⟨q, 0, none⟩), .slice ao n c] 74))
  have cr := hid (read111 (h.below b0.out))
  have hl := h.len
  clear h
  go_enter Tryz.func68, Tryz.ntmps68
  go_wp2_with fail
  refine cr.out.mono ?_
  clear cr
  rintro e w1 ⟨g, rfl, hg, hb1⟩
  have hG := hid hg
  have B1 := hid (b0.out.trans (hb1.mono b0.out.size))
  clear hg hb1 b0
  go_wp2_with fail
  go_loopw [18] (fun i wr => ∃ (k : Nat), k ≤ 256 ∧ i = .int .i64 k ∧ wr = w1 ∧ Hid (∀ j, j < k → l.getD j 0 ≠ 0)) (fun i _ => 256 - (intOf i).toNat)
  case atStart => exact ⟨0, by omega, rfl, rfl, hid (fun j hj => by omega)⟩
  case round =>
    obtain ⟨k, hk, rfl, rfl, hz⟩ := hrel
    by_cases hlt : k < 256
    · have hk1 : (k : Int) < 256 := by omega
      obtain ⟨x, hx⟩ : ∃ x, x = l.getD k 0 := ⟨_, rfl⟩
      have cx : wr.cell? ⟨g, k, none⟩ = some (.int .u8 x.toNat) := by
        rw [hG.out.cell k, hx]
        simp [bv, List.getD, List.getElem?_eq_getElem (show k < l.length by omega)]
      have cv := conv_take hG.out k 256 (by omega)
      by_cases h0 : x = 0
      · have hX := hid (hx.symm.trans h0)
        have cx0 : wr.cell? ⟨g, k, none⟩ = some (.int .u8 0) := by rw [cx, h0]; rfl
        clear hx h0 cx
        go_wp2_with fail
        go_ret
        rw [txt_at hz.out (by omega) hX.out]
        exact ⟨rfl, B1.out⟩
      · obtain ⟨xn, hxn⟩ : ∃ n : Nat, n = x.toNat := ⟨_, rfl⟩
        have hx1 : (xn = 0) = False := eq_false (fun h => h0 (UInt8.toNat_inj.1 (by simpa using hxn.symm.trans h)))
        have hx0 : ((xn : Int) = 0) = False := eq_false (fun h => by rw [← hx1]; omega)
        have hx2 : ((xn : Int) == 0) = false := by simp [hx1]
        have hX := hid (show l.getD k 0 ≠ 0 from fun h => h0 (hx.trans h))
        rw [← hxn] at cx
        clear hx h0 hxn cv
        go_wp2_with fail
        refine ⟨⟨k + 1, by omega, by simp, trivial, hid fun j hj => ?_⟩, by simp only [intOf]; omega⟩
        rcases Nat.lt_or_eq_of_le (Nat.le_of_lt_succ hj) with h1 | h1
        · exact hz.out j h1
        · subst h1; exact hX.out
    · obtain rfl : k = 256 := by omega
      have cv := conv_take hG.out 256 256 (by omega)
      go_wp2_with fail
      go_ret
      rw [txt_all (fun j hj => hz.out j (by omega)), List.take_of_length_le (by omega)]
      exact ⟨rfl, B1.out⟩

end Go.Proofs.YtmjholcpajfldaaGreatDoor
