/- Walks: apart (of the law). -/
import Derived.Test.YtdhicfolchpmhaaSpanA
import Derived.Test.YtdhicfolchpmhaaKitQ
namespace Go.Proofs.Ytdhicfolchpmhaa
open Go.RowKit
set_option linter.unusedVariables false
set_option linter.unusedSimpArgs false

theorem APR.form {n : Nat} {f h : Nat → Int} {e : Ending} (h : APR n f h e) : ∃ (a b : Nat) (o : Bool), e = .returned (.tuple #[.int .i64 a, .int .i64 b, .bool o]) := by
  rcases h with ⟨i, j, _, _, _, _, _, h1⟩ | ⟨_, h1⟩
  · exact ⟨i, j, false, h1⟩
  · exact ⟨0, 0, true, h1⟩
theorem pairsV_set (f g : Nat → Value) (j : Nat) (xs : List Value) (h : j * 2 + 1 < xs.length) : ((pairsV f g j ++ xs.drop (j * 2)).set (j * 2) (f j)).set (j * 2 + 1) (g j) = pairsV f g (j + 1) ++ xs.drop ((j + 1) * 2) :=
  pairsM_set (fun _ => f) (fun _ => g) 0 j xs h

def oF (k n : Nat) (f : Nat → Int) (i : Nat) : Int := if k = 0 then f i else i
def oH (k n : Nat) (h : Nat → Int) (i : Nat) : Int := if k = 0 then h i else ((k : Int) - 1)

set_option maxHeartbeats 2000000 in
set_option maxRecDepth 100000 in
theorem apart42 (ao : Option Addr) (b off n c : Nat) (hao : n = 0 ∨ ao = some ⟨b, off, none⟩) (f h : Nat → Int) (w : World) (hn : n ≤ 10000000)
    (hcell : ∀ i, i < n → w.cell? ⟨b, off + i * 2, none⟩ = some (.int .u32 (f i)) ∧ w.cell? ⟨b, off + i * 2 + 1, none⟩ = some (.int .u32 (h i)))
    (hf : ∀ i, i < n → 0 ≤ f i ∧ f i ≤ 4294967295) (hh : ∀ i, i < n → 0 ≤ h i ∧ h i ≤ 4294967295) :
    Calls Try.prog 42 #[.slice ao n c] w fun e w' => e = .returned (.bool true) ∧ Below w.heap.size w w' := by
  have h82 := hid (lent82 ao b off n c hao f h w (by omega) hcell)
  have hC := hid hcell
  have hF := hid hf
  have hH := hid hh
  clear hcell hf hh
  go_enter Try.func42, Try.ntmps42
  go_wp2_with fail
  refine h82.out.mono ?_
  clear h82
  rintro e w1 ⟨v, rfl, ho, hb⟩
  obtain ⟨g, c2, hv, hg0, hg1, hc2, -⟩ := own_shape ho (by omega)
  subst hv
  have hO0 := hid ho
  have hB1 := hid hb
  have hsz := hb.size
  clear ho hb
  have hcut := own_take_size hO0.out (m := n) (by omega)
  have hk0 : List.take (n * 2) (pairsV (fun i => Value.int .u32 (lF n f i)) (fun i => .int .u32 (lH n h i)) (n + 64)) = pairsV (fun i => .int .u32 (oF 0 n f i)) (fun i => .int .u32 (oH 0 n h i)) n := by
    refine List.ext_getElem? fun i => ?_
    rw [List.getElem?_take]
    split
    · rename_i hi
      rcases Nat.mod_two_eq_zero_or_one i with h2 | h2
      · obtain ⟨q, rfl⟩ : ∃ q, i = q * 2 := ⟨i / 2, by omega⟩
        rw [(pairsV_get _ _ _ q (by omega)).1, (pairsV_get _ _ _ q (by omega)).1]
        simp [lF, oF, show q < n by omega]
      · obtain ⟨q, rfl⟩ : ∃ q, i = q * 2 + 1 := ⟨i / 2, by omega⟩
        rw [(pairsV_get _ _ _ q (by omega)).2, (pairsV_get _ _ _ q (by omega)).2]
        simp [lH, oH, show q < n by omega]
    · rw [List.getElem?_eq_none (by rw [pairsV_len]; omega)]
  rw [hk0] at hcut
  have hCut := hid hcut
  clear hcut hk0
  go_wp2_with fail
  go_loopw [5] (fun i wr => ∃ k : Nat, k ≤ 3 ∧ i = .int .i64 k ∧ wr.ownsRow w.heap.size 59 2 (.slice (some ⟨g, 0, none⟩) n c2) n (pairsV (fun i => .int .u32 (oF k n f i)) (fun i => .int .u32 (oH k n h i)) n) ∧ (k = 0 → w1 = wr) ∧ Below w.heap.size w wr) (fun i _ => 3 - (intOf i).toNat)
  case atStart => exact ⟨0, by omega, rfl, hCut.out, fun _ => rfl, hB1.out⟩
  case round =>
    clear hCut
    obtain ⟨k, hk, rfl, hp, h0, hb⟩ := hrel
    have hP := hid hp
    have hZ := hid h0
    have hB := hid hb
    clear hp h0 hb
    by_cases hlt : k < 3
    · have hBf : Hid (∀ i, i < n → 0 ≤ oF k n f i ∧ oF k n f i ≤ 4294967295) := fun i hi => by
        have := hF.out i hi
        unfold oF; split <;> omega
      have hBh : Hid (∀ i, i < n → 0 ≤ oH k n h i ∧ oH k n h i ≤ 4294967295) := fun i hi => by
        have := hH.out i hi
        unfold oH; split <;> omega
      have hcl : Hid (∀ W : World, W.ownsRow w.heap.size 59 2 (.slice (some ⟨g, 0, none⟩) n c2) n (pairsV (fun i => .int .u32 (oF k n f i)) (fun i => .int .u32 (oH k n h i)) n) → ∀ i, i < n → W.cell? ⟨g, i * 2, none⟩ = some (.int .u32 (oF k n f i)) ∧ W.cell? ⟨g, i * 2 + 1, none⟩ = some (.int .u32 (oH k n h i))) := fun W hW i hi =>
        ⟨(hW.cellAt (i * 2) (by omega)).trans (pairsV_get _ _ _ i hi).1, (hW.cellAt (i * 2 + 1) (by omega)).trans (pairsV_get _ _ _ i hi).2⟩
      have h83 := hid (apartG83 (some ⟨g, 0, none⟩) g n c2 (.inr rfl) (oF k n f) (oH k n h) wr (by omega) (by omega) (hcl.out _ hP.out) hBf.out hBh.out)
      go_wp2_with fail
      refine h83.out.mono ?_
      clear h83
      rintro e w2 ⟨hr, hg2⟩
      obtain ⟨x, y, o, rfl⟩ := hr.form
      have hR := hid hr
      have hP2 := hid (own_mono hP.out (grown_below hg2) (Nat.le_refl _))
      have hB2 := hid (hB.out.trans ((grown_below hg2).mono hB.out.size))
      have hG2 := hid hg2
      clear hr hg2
      go_wp2_with fail
      have h32 := hid (apartG32 (some ⟨g, 0, none⟩) g n c2 (.inr rfl) (oF k n f) (oH k n h) w2 (by omega) (by omega) (hcl.out _ hP2.out) hBf.out hBh.out)
      refine h32.out.mono ?_
      clear h32
      rintro e w3 ⟨hr, hg3⟩
      obtain rfl := hr.same hR.out
      have hP3 := hid (own_mono hP2.out (grown_below hg3) (Nat.le_refl _))
      have hB3 := hid (hB2.out.trans ((grown_below hg3).mono hB2.out.size))
      have hG3 := hid hg3
      have hxx : ((x : Int) != (x : Int)) = false := by simp
      have hyy : ((y : Int) != (y : Int)) = false := by simp
      have hoo : (o != o) = false := by simp
      clear hr hg3 hR
      rcases Nat.eq_zero_or_pos k with hk0 | hk0
      · have hq : ((k : Int) == 0) = true := by simp [hk0]
        have hq2 : ((k : Int) = 0) = True := eq_true (by omega)
        obtain rfl := hZ.out hk0
        have hK0 := hid hk0
        clear hk0
        clear hq
        have h84 := hid (kept84 (some ⟨g, 0, none⟩) ao g b off n c2 c rfl hao f h w3 (by omega)
          (fun i hi => ⟨(hB3.out.cell (World.block_lt_of_cell? w _ (hC.out i hi).1)).trans (hC.out i hi).1, (hB3.out.cell (World.block_lt_of_cell? w _ (hC.out i hi).2)).trans (hC.out i hi).2⟩)
          (fun i hi => by
            have := own_mono (own_mono hO0.out (grown_below hG2.out) (Nat.le_refl _)) (grown_below hG3.out) (Nat.le_refl _)
            exact ⟨(this.cellAt (i * 2) (by omega)).trans (pairsV_get _ _ _ i hi).1, (this.cellAt (i * 2 + 1) (by omega)).trans (pairsV_get _ _ _ i hi).2⟩))
        clear hZ hG2 hG3
        go_wp2_with fail
        refine h84.out.mono ?_
        clear h84
        rintro e w4 ⟨rfl, hb4⟩
        have hP4 := hid (own_mono hP3.out hb4 (Nat.le_refl _))
        have hB4 := hid (hB3.out.trans (hb4.mono hB3.out.size))
        clear hb4 hP3 hB3
        go_wp2_with fail
        clear hq2
        go_loopw [12] (fun i wr => ∃ j : Nat, j ≤ n ∧ i = .int .i64 j ∧ wr.ownsRow w.heap.size 59 2 (.slice (some ⟨g, 0, none⟩) n c2) n (pairsV (fun i => .int .u32 (oF (k + 1) n f i)) (fun i => .int .u32 (oH (k + 1) n h i)) j ++ (pairsV (fun i => .int .u32 (oF k n f i)) (fun i => .int .u32 (oH k n h i)) n).drop (j * 2)) ∧ Below w.heap.size w wr) (fun i _ => n - (intOf i).toNat)
        case atStart => exact ⟨0, Nat.zero_le _, rfl, by simpa [pairsV] using hP4.out, hB4.out⟩
        case round =>
          clear hP4 hB4
          obtain ⟨j, hj, rfl, hp, hb⟩ := hrel
          have hP := hid hp
          have hB := hid hb
          clear hp hb
          by_cases hlt2 : j < n
          · have hlen := hP.out.1
            have hset := hid (pairsV_set (fun i => Value.int .u32 (oF (k + 1) n f i)) (fun i => .int .u32 (oH (k + 1) n h i)) j (pairsV (fun i => .int .u32 (oF k n f i)) (fun i => .int .u32 (oH k n h i)) n) (by rw [pairsV_len]; omega))
            have hnx := hid (((hP.out.stored (j * 2) (.int .u32 j)).1.stored (j * 2 + 1) (.int .u32 k)).1)
            have e1 : oF (k + 1) n f j = j := by simp [oF]
            have e2 : oH (k + 1) n h j = k := by simp [oH]
            rw [e1, e2] at hset
            rw [hset.out] at hnx
            have hx1 := hP.out.cellAt (j * 2) (by omega)
            have hx2 := hP.out.cellAt (j * 2 + 1) (by omega)
            rw [List.getElem?_eq_getElem (by omega)] at hx1 hx2
            have hz1 := hP.out.frozenAt (j * 2)
            have hz2 := hP.out.frozenAt (j * 2 + 1)
            obtain ⟨u1, hu1⟩ : ∃ u, wr.cell? ⟨g, j * 2, none⟩ = some u := ⟨_, hx1⟩
            obtain ⟨u2, hu2⟩ : ∃ u, wr.cell? ⟨g, j * 2 + 1, none⟩ = some u := ⟨_, hx2⟩
            have hw1 : IntKind.u32.wrap (j : Int) = j := by rw [IntKind.wrap_u32]; omega
            have hw2 : IntKind.u32.wrap (0 : Int) = 0 := by decide
            clear hx1 hx2 e1 e2 hset hlen hP
            go_wp2_with fail
            go_roundw
            case rel => exact ⟨j + 1, by omega, by go_num, by have := hnx.out; rwa [show (k : Int) = 0 by have := hK0.out; omega] at this, Below.setCell (Below.setCell hB.out hg0 _) hg0 _⟩
            case measure => simp [intOf]; omega
          · obtain rfl : j = n := by omega
            have hfin := hP.out
            rw [List.drop_eq_nil_of_le (by rw [pairsV_len]; omega), List.append_nil] at hfin
            have hFin := hid hfin
            clear hfin hP
            go_wp2_with fail
            go_roundw
            case rel => exact ⟨k + 1, by omega, by have := hK0.out; subst this; go_num, hFin.out, fun h => by omega, hB.out⟩
            case measure => simp [intOf]; omega
      · have hq2 : ((k : Int) = 0) = False := eq_false (by omega)
        have hP4 := hP3
        have hB4 := hB3
        clear hZ hG2 hG3 hP3 hB3
        go_wp2_with fail
        go_loopw [12] (fun i wr => ∃ j : Nat, j ≤ n ∧ i = .int .i64 j ∧ wr.ownsRow w.heap.size 59 2 (.slice (some ⟨g, 0, none⟩) n c2) n (pairsV (fun i => .int .u32 (oF (k + 1) n f i)) (fun i => .int .u32 (oH (k + 1) n h i)) j ++ (pairsV (fun i => .int .u32 (oF k n f i)) (fun i => .int .u32 (oH k n h i)) n).drop (j * 2)) ∧ Below w.heap.size w wr) (fun i _ => n - (intOf i).toNat)
        case atStart => exact ⟨0, Nat.zero_le _, rfl, by simpa [pairsV] using hP4.out, hB4.out⟩
        case round =>
          clear hP4 hB4
          obtain ⟨j, hj, rfl, hp, hb⟩ := hrel
          have hP := hid hp
          have hB := hid hb
          clear hp hb
          by_cases hlt2 : j < n
          · have hlen := hP.out.1
            have hset := hid (pairsV_set (fun i => Value.int .u32 (oF (k + 1) n f i)) (fun i => .int .u32 (oH (k + 1) n h i)) j (pairsV (fun i => .int .u32 (oF k n f i)) (fun i => .int .u32 (oH k n h i)) n) (by rw [pairsV_len]; omega))
            have hnx := hid (((hP.out.stored (j * 2) (.int .u32 j)).1.stored (j * 2 + 1) (.int .u32 k)).1)
            have e1 : oF (k + 1) n f j = j := by simp [oF]
            have e2 : oH (k + 1) n h j = k := by simp [oH]
            rw [e1, e2] at hset
            rw [hset.out] at hnx
            have hx1 := hP.out.cellAt (j * 2) (by omega)
            have hx2 := hP.out.cellAt (j * 2 + 1) (by omega)
            rw [List.getElem?_eq_getElem (by omega)] at hx1 hx2
            have hz1 := hP.out.frozenAt (j * 2)
            have hz2 := hP.out.frozenAt (j * 2 + 1)
            obtain ⟨u1, hu1⟩ : ∃ u, wr.cell? ⟨g, j * 2, none⟩ = some u := ⟨_, hx1⟩
            obtain ⟨u2, hu2⟩ : ∃ u, wr.cell? ⟨g, j * 2 + 1, none⟩ = some u := ⟨_, hx2⟩
            have hw1 : IntKind.u32.wrap (j : Int) = j := by rw [IntKind.wrap_u32]; omega
            have hw2 : IntKind.u32.wrap (k : Int) = k := by rw [IntKind.wrap_u32]; omega
            clear hx1 hx2 e1 e2 hset hlen hP
            go_wp2_with fail
            go_roundw
            case rel => exact ⟨j + 1, by omega, by go_num, hnx.out, Below.setCell (Below.setCell hB.out hg0 _) hg0 _⟩
            case measure => simp [intOf]; omega
          · obtain rfl : j = n := by omega
            have hfin := hP.out
            rw [List.drop_eq_nil_of_le (by rw [pairsV_len]; omega), List.append_nil] at hfin
            have hFin := hid hfin
            clear hfin hP
            go_wp2_with fail
            go_roundw
            case rel => exact ⟨k + 1, by omega, by go_num, hFin.out, fun h => by omega, hB.out⟩
            case measure => simp [intOf]; omega
    · obtain rfl : k = 3 := by omega
      go_wp2_with fail
      go_ret
      exact ⟨rfl, hB.out⟩
end Go.Proofs.Ytdhicfolchpmhaa
