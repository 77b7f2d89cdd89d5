/- Walks: a host's state handed in: may it be; its bytes copied. No condition. -/
import Derived.Test.YtmjholcpajfldaaGreatDoorHostN
namespace Go.Proofs.YtmjholcpajfldaaGreatDoor
open Go.RowKit
set_option linter.unusedVariables false
set_option linter.unusedSimpArgs false

set_option maxRecDepth 100000

/-- bytes in memory, behind an address or none -/
structure By (w : World) (ao : Option Addr) (l : List UInt8) : Prop where
  cell : ∃ b off, (l.length ≤ 0 ∨ ao = some ⟨b, off, none⟩) ∧ ∀ i, i < l.length → w.cell? ⟨b, off + i, none⟩ = some (.int .u8 ((l.getD i 0).toNat : Int))
theorem By.below {w w' : World} {ao : Option Addr} {l : List UInt8} (h : By w ao l) (hb : Below w.heap.size w w') : By w' ao l := by
  obtain ⟨b, off, h1, h2⟩ := h.cell
  exact ⟨b, off, h1, fun i hi => cell_on (h2 i hi) hb⟩
abbrev NW := List (ByteArray × Int)
def nmA (l : NW) (i : Nat) : ByteArray := (l.getD i (⟨#[]⟩, 0)).1
def wdA (l : NW) (i : Nat) : Int := (l.getD i (⟨#[]⟩, 0)).2
/-- names with words, in a row of pairs -/
structure Vr (w : World) (ao : Option Addr) (l : NW) : Prop where
  cell : ∃ b off, (l.length ≤ 0 ∨ ao = some ⟨b, off, none⟩) ∧ ∀ i, i < l.length → w.cell? ⟨b, off + i * 2, none⟩ = some (.string (nmA l i)) ∧ w.cell? ⟨b, off + i * 2 + 1, none⟩ = some (.int .u32 (wdA l i))
  wf : ∀ i, i < l.length → 0 ≤ wdA l i ∧ wdA l i ≤ 4294967295
theorem Vr.below {w w' : World} {ao : Option Addr} {l : NW} (h : Vr w ao l) (hb : Below w.heap.size w w') : Vr w' ao l := by
  obtain ⟨b, off, h1, h2⟩ := h.cell
  exact ⟨⟨b, off, h1, fun i hi => ⟨cell_on (h2 i hi).1 hb, cell_on (h2 i hi).2 hb⟩⟩, h.wf⟩
/-- a variable may stand there -/
def okAt (l : NW) (i : Nat) : Bool := nmB (nmA l i) && (decide (i = 0) || Op.bytesLess (nmA l (i - 1)).toList (nmA l i).toList)
/-- such a state may be -/
def mayB (con : List UInt8) (l : NW) (sd : Int) : Bool := decide (con.length ≤ 4096) && (decide (l.length ≤ 32) && (decide (sd ≠ 0) && (List.range l.length).all (okAt l)))
theorem may_all {l : NW} (h : ∀ j, j < l.length → okAt l j = true) : (List.range l.length).all (okAt l) = true := by
  rw [List.all_eq_true]
  intro x hx
  exact h x (List.mem_range.1 hx)
theorem may_no {l : NW} {k : Nat} (hk : k < l.length) (h : okAt l k = false) : (List.range l.length).all (okAt l) = false := by
  rw [List.all_eq_false]
  exact ⟨k, List.mem_range.2 hk, by simp [h]⟩
/-- the state handed in -/
def stV (co : Option Addr) (cn cc : Nat) (vo : Option Addr) (vn vc : Nat) (sd ck : Int) : Value := .agg #[.slice co cn cc, .slice vo vn vc, .int .u64 sd, .int .u32 ck]

theorem less_tri : ∀ a b : List UInt8, (Op.bytesLess a b || a == b) = !Op.bytesLess b a
  | [], [] => by simp [Op.bytesLess]
  | _ :: _, [] => by simp [Op.bytesLess]
  | [], _ :: _ => by simp [Op.bytesLess]
  | x :: xs, y :: ys => by
    have ih := less_tri xs ys
    rw [Op.bytesLess, Op.bytesLess]
    rcases Nat.lt_trichotomy x.toNat y.toNat with h | h | h
    · have h1 : x < y := by rw [UInt8.lt_iff_toNat_lt]; omega
      have h2 : ¬ y < x := by rw [UInt8.lt_iff_toNat_lt]; omega
      have h3 : ¬ y = x := fun e => by rw [e] at h1; exact h2 (by rw [e]; exact h1)
      simp [h1, h2, h3]
    · have h1 : x = y := UInt8.toNat_inj.1 h
      subst h1
      have h2 : ¬ x < x := by rw [UInt8.lt_iff_toNat_lt]; omega
      simpa [h2] using ih
    · have h1 : y < x := by rw [UInt8.lt_iff_toNat_lt]; omega
      have h2 : ¬ x < y := by rw [UInt8.lt_iff_toNat_lt]; omega
      have h3 : ¬ x = y := fun e => by rw [e] at h1; exact h2 (by rw [e]; exact h1)
      simp [h1, h2, h3]
theorem less_no {a b : List UInt8} (h : Op.bytesLess b a = true) : Op.bytesLess a b = false ∧ (a == b) = false := by
  have := less_tri a b
  rw [h] at this
  simpa using this
theorem less_yes {a b : List UInt8} (h : Op.bytesLess b a = false) : Op.bytesLess a b = true ∨ (Op.bytesLess a b = false ∧ (a == b) = true) := by
  have := less_tri a b
  rw [h] at this
  cases h1 : Op.bytesLess a b
  · rw [h1] at this
    exact .inr ⟨rfl, by simpa using this⟩
  · exact .inl rfl

set_option maxHeartbeats 8000000 in
theorem may14_loop (co vo : Option Addr) (m n cc vc : Nat) (l : NW) (hl : l.length = n) (sd ck : Int) (w : World) (hv : Vr w vo l) (h1 : m ≤ 4096) (h2 : n ≤ 32) (h3 : sd ≠ 0) :
    Calls Tryz.prog 14 #[.agg #[.slice co m cc, .slice vo n vc, .int .u64 sd, .int .u32 ck]] w fun e w' => e = .returned (.bool ((List.range l.length).all (okAt l))) ∧ Below w.heap.size w w' := by
  have hB0 := hid ((Below.refl w.heap.size w).alloc (Nat.le_refl _) (.cells #[.slice co m cc, .slice vo n vc, .int .u64 sd, .int .u32 ck] 45))
  have hV0 := hid (hv.below hB0.out)
  have hX0 := hid (Bx.new w #[.slice co m cc, .slice vo n vc, .int .u64 sd, .int .u32 ck] 45)
  have e1 : ((4096 : Int) < (m : Int)) = False := eq_false (by omega)
  have e2 : ((32 : Int) < (n : Int)) = False := eq_false (by omega)
  have e3 : (sd = 0) = False := eq_false h3
  have e4 : (sd == 0) = false := by simp [h3]
  have hN := hid hl
  clear hv h1 h3 hl
  have c0 : (w.alloc (.cells #[.slice co m cc, .slice vo n vc, .int .u64 sd, .int .u32 ck] 45)).cell? ⟨w.heap.size, 0, none⟩ = some (.slice co m cc) := by simp
  have c1 : (w.alloc (.cells #[.slice co m cc, .slice vo n vc, .int .u64 sd, .int .u32 ck] 45)).cell? ⟨w.heap.size, 1, none⟩ = some (.slice vo n vc) := by simp
  have c2 : (w.alloc (.cells #[.slice co m cc, .slice vo n vc, .int .u64 sd, .int .u32 ck] 45)).cell? ⟨w.heap.size, 2, none⟩ = some (.int .u64 sd) := by simp
  go_enter Tryz.func14, Tryz.ntmps14
  go_wp2_with fail
  generalize w.alloc (.cells #[.slice co m cc, .slice vo n vc, .int .u64 sd, .int .u32 ck] 45) = w0 at *
  clear hX0
  go_loopw [3] (fun i wr => ∃ (k j : Nat), k ≤ n ∧ i = .int .i64 k ∧ wr = w0.drewN j ∧ Hid (∀ j, j < k → okAt l j = true)) (fun i _ => n - (intOf i).toNat)
  case atStart => exact ⟨0, 0, by omega, rfl, rfl, hid (fun j hj => by omega)⟩
  case round =>
    obtain ⟨k, j, hk, rfl, rfl, hz⟩ := hrel
    by_cases hlt : k < n
    · obtain ⟨b, off, hvo, hc⟩ := hV0.out.cell
      obtain rfl := hvo.resolve_left (by have := hN.out; omega)
      have d1 := (hc k (by have := hN.out; omega)).1
      have d0 := (hc (k - 1) (by have := hN.out; omega)).1
      have c1' : (w0.drewN j).cell? ⟨w.heap.size, 1, none⟩ = some (.slice (some ⟨b, off, none⟩) n vc) := c1
      have d1' : (w0.drewN j).cell? ⟨b, off + k * 2, none⟩ = some (.string (nmA l k)) := d1
      have d0' : (w0.drewN j).cell? ⟨b, off + (k - 1) * 2, none⟩ = some (.string (nmA l (k - 1))) := d0
      have hGQ := hid (show ∀ i, (w0.drewN j).drewN i = w0.drewN (j + i) from fun i => by simp)
      have hOk := hid (show okAt l k = (nmB (nmA l k) && (decide (k = 0) || Op.bytesLess (nmA l (k - 1)).toList (nmA l k).toList)) from rfl)
      have F := hid (fun w => named10 (nmA l k) w)
      clear d1 d0 hc c0 c1 c2
      generalize w0.drewN j = wz at *
      generalize hs : nmA l k = s at *
      generalize nmA l (k - 1) = s0 at *
      clear hs
      go_wp2_with fail
      cases hb : nmB s
      · go_quiet ((go_at_call 10; exact Calls.quiet_of_same (F.out _)))
        go_wp2_with fail
        go_ret
        rw [may_no (k := k) (by have := hN.out; omega) (by rw [hOk.out, hb]; rfl)]
        rw [hGQ.out]
        exact ⟨rfl, below_drewN' hB0.out _⟩
      · rcases Nat.eq_zero_or_pos k with h0 | h0
        · have g1 : ((0 : Int) < (k : Int)) = False := eq_false (by omega)
          have g3 : (0 < k) = False := eq_false (by omega)
          have hOk2 : Hid (okAt l k = true) := by unfold Hid; rw [hOk.out, hb, h0]; rfl
          clear h0
          go_quiet ((go_at_call 10; exact Calls.quiet_of_same (F.out _)))
          go_wp2_with fail
          refine ⟨⟨k + 1, j + nq, by omega, by go_num, hGQ.out nq, hid fun i hi => ?_⟩, by simp only [intOf]; omega⟩
          rcases Nat.lt_or_eq_of_le (Nat.le_of_lt_succ hi) with h1 | h1
          · exact hz.out i h1
          · subst h1; exact hOk2.out
        · have g1 : ((0 : Int) < (k : Int)) = True := eq_true (by omega)
          have g2 : ((k : Int) - 1) = ((k - 1 : Nat) : Int) := by omega
          have hk0 : Hid (decide (k = 0) = false) := hid (by simp; omega)
          cases hl : Op.bytesLess s0.toList s.toList
          · have hOk2 : Hid (okAt l k = false) := by unfold Hid; rw [hOk.out, hb, hk0.out, hl]; rfl
            have hL := hid (less_yes hl)
            clear hl
            rcases hL.out with hl | ⟨hl, hl2⟩ <;> clear hL <;>
            · go_quiet ((go_at_call 10; exact Calls.quiet_of_same (F.out _)))
              go_wp2_with fail
              go_ret
              rw [may_no (k := k) (by have := hN.out; omega) hOk2.out, hGQ.out]
              exact ⟨rfl, below_drewN' hB0.out _⟩
          · have hOk2 : Hid (okAt l k = true) := by unfold Hid; rw [hOk.out, hb, hl]; simp
            obtain ⟨hl1, hl2⟩ := less_no hl
            go_quiet ((go_at_call 10; exact Calls.quiet_of_same (F.out _)))
            go_wp2_with fail
            refine ⟨⟨k + 1, j + nq, by omega, by go_num, hGQ.out nq, hid fun i hi => ?_⟩, by simp only [intOf]; omega⟩
            rcases Nat.lt_or_eq_of_le (Nat.le_of_lt_succ hi) with h1 | h1
            · exact hz.out i h1
            · subst h1; exact hOk2.out
    · obtain rfl : k = n := by omega
      go_wp2_with fail
      go_ret
      rw [may_all fun i hi => hz.out i (by have := hN.out; omega)]
      exact ⟨rfl, below_drewN' hB0.out _⟩
set_option maxHeartbeats 2000000 in
theorem may14 (co vo : Option Addr) (m n cc vc : Nat) (con : List UInt8) (hcl : con.length = m) (l : NW) (hl : l.length = n) (sd ck : Int) (w : World) (hv : Vr w vo l) :
    Calls Tryz.prog 14 #[.agg #[.slice co m cc, .slice vo n vc, .int .u64 sd, .int .u32 ck]] w fun e w' => e = .returned (.bool (mayB con l sd)) ∧ Below w.heap.size w w' := by
  have hno : (m ≤ 4096 → n ≤ 32 → sd = 0) → Hid (mayB con l sd = false) := fun h => by
    unfold Hid mayB
    rw [hcl, hl]
    by_cases h1 : m ≤ 4096
    · by_cases h2 : n ≤ 32
      · rw [h h1 h2]; simp
      · rw [decide_eq_false h2]; simp
    · rw [decide_eq_false h1]; rfl
  by_cases h1 : m ≤ 4096
  · by_cases h2 : n ≤ 32
    · by_cases h3 : sd = 0
      · have hm := hno fun _ _ => h3
        have e1 : ((4096 : Int) < (m : Int)) = False := eq_false (by omega)
        have e2 : ((32 : Int) < (n : Int)) = False := eq_false (by omega)
        subst h3
        clear hv hno
        go_enter Tryz.func14, Tryz.ntmps14
        go_wp2_with fail
        go_ret
        rw [hm.out]
        exact ⟨rfl, (Below.refl w.heap.size w).alloc (Nat.le_refl _) _⟩
      · have hm : mayB con l sd = (List.range l.length).all (okAt l) := by
          unfold mayB
          rw [hcl, hl]
          simp [h1, h2, h3]
        rw [hm]
        exact may14_loop co vo m n cc vc l hl sd ck w hv h1 h2 h3
    · have hm := hno fun _ h => absurd h h2
      have e1 : ((4096 : Int) < (m : Int)) = False := eq_false (by omega)
      have e2 : ((32 : Int) < (n : Int)) = True := eq_true (by omega)
      clear hv hno
      go_enter Tryz.func14, Tryz.ntmps14
      go_wp2_with fail
      go_ret
      rw [hm.out]
      exact ⟨rfl, (Below.refl w.heap.size w).alloc (Nat.le_refl _) _⟩
  · have hm := hno fun h => absurd h h1
    have e1 : ((4096 : Int) < (m : Int)) = True := eq_true (by omega)
    clear hv hno
    go_enter Tryz.func14, Tryz.ntmps14
    go_wp2_with fail
    go_ret
    rw [hm.out]
    exact ⟨rfl, (Below.refl w.heap.size w).alloc (Nat.le_refl _) _⟩

end Go.Proofs.YtmjholcpajfldaaGreatDoor
