/- Walks: two states that are the same. No condition. -/
import Derived.Test.YtmjholcpajfldaaGreatDoorHostMe
namespace Go.Proofs.YtmjholcpajfldaaGreatDoor
open Go.RowKit
set_option linter.unusedVariables false
set_option linter.unusedSimpArgs false

set_option maxRecDepth 100000

theorem convBy {w : World} {ao : Option Addr} {con : List UInt8} (h : By w ao con) (n c : Nat) (hn : con.length = n) : (convert 27 9 (.slice ao n c)).run Tryz.prog w = .ok (.string ⟨con.toArray⟩) w := by
  obtain ⟨b, off, h1, h2⟩ := h.cell
  rcases Nat.eq_zero_or_pos con.length with h0 | h0
  · obtain rfl : con = [] := List.eq_nil_of_length_eq_zero h0
    rw [← hn]
    cases ao with
    | none => exact run_convert_bytes_nil w 27 5 Tryz.underlying27 Tryz.underlying5 0 c 9 Tryz.underlying9
    | some ad => exact run_convert_bytes_back (P := Tryz.prog) w 27 9 5 ad c [] Tryz.underlying27 Tryz.underlying5 Tryz.underlying9 (fun j hj => by simp at hj)
  · obtain rfl := h1.resolve_left (by omega)
    rw [← hn]
    refine run_convert_bytes_back (P := Tryz.prog) w 27 9 5 ⟨b, off, none⟩ c con Tryz.underlying27 Tryz.underlying5 Tryz.underlying9 (fun j hj => ?_)
    rw [show (⟨b, off, none⟩ : Addr).add j = ⟨b, off + j, none⟩ by unfold Addr.add; split <;> simp_all, h2 j hj]
    simp [List.getD, List.getElem?_eq_getElem hj]
set_option maxHeartbeats 8000000 in
theorem same18 (ao bo va vb : Option Addr) (m n ca cb da db : Nat) (con : List UInt8) (hcl : con.length = m) (l : NW) (hl : l.length = n) (sd ck : Int) (w : World) (hv1 : Vr w va l) (hv2 : Vr w vb l) (hb1 : By w ao con) (hb2 : By w bo con) (hn : n ≤ 140737488355328) :
    Calls Tryz.prog 18 #[.agg #[.slice ao m ca, .slice va n da, .int .u64 sd, .int .u32 ck], .agg #[.slice bo m cb, .slice vb n db, .int .u64 sd, .int .u32 ck]] w fun e w' => e = .returned (.bool true) ∧ Below w.heap.size w w' := by
  have b0 := (Below.refl w.heap.size w).alloc (Nat.le_refl _) (.cells #[.slice ao m ca, .slice va n da, .int .u64 sd, .int .u32 ck] 45)
  have X0 := Bx.new w #[.slice ao m ca, .slice va n da, .int .u64 sd, .int .u32 ck] 45
  obtain ⟨w1, hw1⟩ : ∃ w1, w1 = w.alloc (.cells #[.slice ao m ca, .slice va n da, .int .u64 sd, .int .u32 ck] 45) := ⟨_, rfl⟩
  have hz : (w.alloc (.cells #[.slice ao m ca, .slice va n da, .int .u64 sd, .int .u32 ck] 45)).heap.size = w.heap.size + 1 := by simp
  rw [← hw1] at b0 X0 hz
  have b1 := (Below.refl w1.heap.size w1).alloc (Nat.le_refl _) (.cells #[.slice bo m cb, .slice vb n db, .int .u64 sd, .int .u32 ck] 45)
  have X1 := X0.below b1
  have Y1 := Bx.new w1 #[.slice bo m cb, .slice vb n db, .int .u64 sd, .int .u32 ck] 45
  have B1 := hid (b0.trans (b1.mono b0.size))
  rw [hz, hw1] at Y1
  rw [hw1] at X1 B1
  have hX := hid X1
  have hY := hid Y1
  have hcv1 := convBy (hb1.below B1.out) m ca hcl
  have hcv2 := convBy (hb2.below B1.out) m cb hcl
  have V1 := hid (hv1.below B1.out)
  have V2 := hid (hv2.below B1.out)
  have hN := hid hl
  have hM := hid hn
  have x0 := X1.cell 0
  have x1 := X1.cell 1
  have x2 := X1.cell 2
  have x3 := X1.cell 3
  have y0 := Y1.cell 0
  have y1 := Y1.cell 1
  have y2 := Y1.cell 2
  have y3 := Y1.cell 3
  simp only [List.getElem?_toArray, List.getElem?_cons_zero, List.getElem?_cons_succ] at x0 x1 x2 x3 y0 y1 y2 y3
  clear b0 X0 hw1 hz b1 X1 Y1 hb1 hb2 hv1 hv2 hcl hl hn w1
  go_enter Tryz.func18, Tryz.ntmps18
  go_wp2_with fail
  clear hcv1 hcv2 x0 x2 x3 y0 y2 y3
  generalize (w.alloc (.cells #[.slice ao m ca, .slice va n da, .int .u64 sd, .int .u32 ck] 45)).alloc (.cells #[.slice bo m cb, .slice vb n db, .int .u64 sd, .int .u32 ck] 45) = w2 at *
  go_loopw [5] (fun i wr => ∃ (k j : Nat), k ≤ n ∧ i = .int .i64 k ∧ wr = w2.drewN j) (fun i _ => n - (intOf i).toNat)
  case atStart => exact ⟨0, 0, by omega, rfl, rfl⟩
  case round =>
    obtain ⟨k, j, hk, rfl, rfl⟩ := hrel
    have x1' : (w2.drewN j).cell? ⟨w.heap.size, 1, none⟩ = some (.slice va n da) := x1
    have y1' : (w2.drewN j).cell? ⟨w.heap.size + 1, 1, none⟩ = some (.slice vb n db) := y1
    by_cases hlt : k < n
    · obtain ⟨b, off, hvo, hcb⟩ := V1.out.cell
      obtain rfl := hvo.resolve_left (by have := hN.out; omega)
      obtain ⟨b2, off2, hvo2, hcb2⟩ := V2.out.cell
      obtain rfl := hvo2.resolve_left (by have := hN.out; omega)
      have d1 : (w2.drewN j).cell? ⟨b, off + k * 2, none⟩ = some (.string (nmA l k)) := (hcb k (by have := hN.out; omega)).1
      have d2 : (w2.drewN j).cell? ⟨b, off + k * 2 + 1, none⟩ = some (.int .u32 (wdA l k)) := (hcb k (by have := hN.out; omega)).2
      have d3 : (w2.drewN j).cell? ⟨b2, off2 + k * 2, none⟩ = some (.string (nmA l k)) := (hcb2 k (by have := hN.out; omega)).1
      have d4 : (w2.drewN j).cell? ⟨b2, off2 + k * 2 + 1, none⟩ = some (.int .u32 (wdA l k)) := (hcb2 k (by have := hN.out; omega)).2
      have hGQ := hid (show ∀ i, (w2.drewN j).drewN i = w2.drewN (j + i) from fun i => by simp)
      have hk9 : k < 140737488355328 := by have := hM.out; omega
      clear hvo hcb hvo2 hcb2 x1 y1
      generalize nmA l k = s at *
      generalize wdA l k = x at *
      generalize w2.drewN j = wz at *
      go_wp2_with fail
      go_quiet ((fail))
      go_wp2_with fail
      exact ⟨⟨k + 1, j + nq, by omega, by go_num, hGQ.out nq⟩, by simp only [intOf]; omega⟩
    · obtain rfl : k = n := by omega
      go_wp2_with fail
      go_ret
      exact ⟨rfl, below_drewN' B1.out _⟩

end Go.Proofs.YtmjholcpajfldaaGreatDoor
