/- Walks: HostWords. -/
import Derived.Test.YtmbdlhgclkbdiaaHostE
namespace Go.Proofs.Ytmbdlhgclkbdiaa
open Go.RowKit
set_option linter.unusedVariables false
set_option linter.unusedSimpArgs false

theorem ap_two2 {w : World} {B n2 n3 : Nat} {e eo : TypeId} {v2 v3 : Value} {x2 x3 : List Value} (h2 : w.ownsRow B e 2 v2 n2 x2) (h3 : w.ownsRow B e 2 v3 n3 x3) (hne : v2.ownBlock = none ∨ v2.ownBlock ≠ v3.ownBlock) :
    Ap (w.alloc (.cells #[v2, v3] eo)) B w.heap.size 0 [⟨v2, e, 2, n2, x2⟩, ⟨v3, e, 2, n3, x3⟩] [⟨v2, e, 2, n2, x2⟩, ⟨v3, e, 2, n3, x3⟩] := by
  refine ⟨⟨fun i hi => ?_, fun i j hi hj hij => ?_⟩, rfl, fun k hk => ?_, fun k hk => ?_⟩
  · match i, hi with
    | 0, _ => exact h2.alloc _
    | 1, _ => exact h3.alloc _
  · match i, j, hi, hj with
    | 0, 0, _, _ => exact absurd rfl hij
    | 1, 1, _, _ => exact absurd rfl hij
    | 0, 1, _, _ => exact hne
    | 1, 0, _, _ => exact RowS.apart_symm (a := ⟨v2, e, 2, n2, x2⟩) (b := ⟨v3, e, 2, n3, x3⟩) hne
  · match k, hk with
    | 0, _ => simp
    | 1, _ => simp
  · match k, hk with
    | 0, _ => intro h; have := (h2.lt _ h).2; omega
    | 1, _ => intro h; have := (h3.lt _ h).2; omega

theorem nm_ne (k : Nat) (hk : k < 24) (j : Nat) (hj : j < k) : ((nm j).toList == (nm k).toList) = false := by
  have h : (List.range 24).all (fun k => (List.range k).all fun j => !((nm j).data.toList == (nm k).data.toList)) = true := by decide +kernel
  have h1 := List.all_eq_true.1 (List.all_eq_true.1 h k (List.mem_range.2 hk)) j (List.mem_range.2 hj)
  rw [ByteArray.toList_eq, ByteArray.toList_eq]
  simpa using h1
theorem nm_none (j : Nat) (hj : j < 24) : ((nm j).toList == (⟨#[]⟩ : ByteArray).toList) = false := by
  have h : (List.range 24).all (fun j => !((nm j).data.toList == [])) = true := by decide +kernel
  have h1 := List.all_eq_true.1 h j (List.mem_range.2 hj)
  rw [ByteArray.toList_eq, ByteArray.toList_eq]
  simpa using h1
theorem BW.told {s : ByteArray} {e : Ending} (h : BW s e) : ∃ (a : Int) (b : Bool), e = .returned (.tuple #[.int .u32 a, .bool b]) := by
  rcases h with ⟨k, _, _, _, h⟩ | ⟨_, h⟩
  · exact ⟨_, _, h⟩
  · exact ⟨_, _, h⟩
theorem BW.is {s : ByteArray} {e : Ending} {v : Value} (h1 : BW s (.returned v)) (h : BW s e) : e = .returned v := by
  obtain ⟨a, b, rfl⟩ := h.told
  rw [h.same h1]
theorem bw_nm (k : Nat) (hk : k < 24) : BW (nm k) (.returned (.tuple #[.int .u32 (16 + (k : Int)), .bool true])) := .inl ⟨k, hk, fun j hj => nm_ne k hk j hj, beq_self_eq_true _, rfl⟩
theorem bw_none : BW ⟨#[]⟩ (.returned (.tuple #[.int .u32 0, .bool false])) := .inr ⟨nm_none, rfl⟩

/-- what of the host's words stands at a number -/
structure Num (x : Int) (s : ByteArray) (a : Int) (b : Bool) : Prop where
  w18 : ∀ w, Calls Try.prog 18 #[.int .u32 x] w fun e w' => e = .returned (.string s) ∧ w.grownBy w' none
  w21 : ∀ w, Calls Try.prog 21 #[.int .u32 x] w fun e w' => e = .returned (.string s) ∧ w.grownBy w' none
  by16 : ∀ w, Calls Try.prog 16 #[.string s] w fun e w' => e = .returned (.tuple #[.int .u32 a, .bool b]) ∧ w.grownBy w' none

theorem cells_gr {w : World} {B g c : Nat} (h : w.ownsRow B 58 2 (.slice (some ⟨g, 0, none⟩) 24 c) 24 (pairsM grF grG 0 24)) : ∀ i, i < 24 → w.cell? ⟨g, i * 2, none⟩ = some (.int .u32 ((16 + i : Nat) : Int)) ∧ w.cell? ⟨g, i * 2 + 1, none⟩ = some (.int .i64 (ar i)) := fun i hi =>
  ⟨(h.cellAt (i * 2) (by omega)).trans (pairsM_get grF grG 0 24 i hi).1, (h.cellAt (i * 2 + 1) (by omega)).trans (pairsM_get grF grG 0 24 i hi).2⟩

set_option maxHeartbeats 2000000 in
set_option maxRecDepth 100000 in
theorem host_case (w : World) (x : Int) (word s : ByteArray) (a : Int) (b : Bool) (hN : Num x s a b) (hx : (b = true ∧ a = x ∧ 16 ≤ x ∧ x ≤ 39) ∨ (b = false ∧ ¬ (16 ≤ x ∧ x ≤ 39))) :
    Calls Try.prog 7 #[.int .u32 x, .string word] w fun e w' => e = .returned (.bool true) ∧ Below w.heap.size w w' := by
  have hN' := hid hN
  clear hN
  have hX := hid hx
  clear hx
  go_enter Try.func7, Try.ntmps7
  go_wp2_with fail
  refine (grants14 w).mono ?_
  rintro e w1 ⟨v1, rfl, ho1, hb1⟩
  obtain ⟨g1, c1, hv1, -⟩ := own_shape ho1 (by decide)
  subst hv1
  have hO1 := hid ho1
  have hB1 := hid hb1
  clear ho1 hb1
  go_wp2_with fail
  refine (grants14 w1).mono ?_
  rintro e w2 ⟨v2, rfl, ho2, hb2⟩
  obtain ⟨g2, c2, hv2, -⟩ := own_shape ho2 (by decide)
  subst hv2
  have hne := hid (own_apart hO1.out ho2 (Nat.le_refl _))
  have hO2 := hid (own_base ho2 hB1.out.size)
  have hO12 := hid (own_mono hO1.out hb2 (Nat.le_refl _))
  have hB2 := hid (hB1.out.trans (hb2.mono hB1.out.size))
  clear ho2 hb2
  go_wp2_with fail
  refine (grants15 w2).mono ?_
  rintro e w3 ⟨v3, rfl, ho3, hb3⟩
  obtain ⟨g3, c3, hv3, -⟩ := own_shape ho3 (by decide)
  subst hv3
  have hO3 := hid ho3
  have hO13 := hid (own_mono hO12.out hb3 (Nat.le_refl _))
  have hO23 := hid (own_mono hO2.out hb3 (Nat.le_refl _))
  have hB3 := hid (hB2.out.trans (hb3.mono hB2.out.size))
  clear ho3 hb3
  go_wp2_with fail
  refine (byword16 word w3).mono ?_
  rintro e w4 ⟨hbw, hg4⟩
  obtain ⟨n, ok, rfl⟩ := hbw.told
  have h17 := hid (fun w => (byword17 word w).mono (fun e w' h => And.intro (hbw.is h.1) h.2))
  have hG4 := hid (below_of_grown hg4)
  clear hbw hg4
  go_wp2_with fail
  refine (h17.out w4).mono ?_
  rintro e w5 ⟨rfl, hg5⟩
  have hG5 := hid (hG4.out.trans ((below_of_grown hg5).mono hG4.out.size))
  clear hg5 hG4 h17
  go_wp2_with fail
  refine (hN'.out.w18 w5).mono ?_
  rintro e w6 ⟨rfl, hg6⟩
  have hG6 := hid (hG5.out.trans ((below_of_grown hg6).mono hG5.out.size))
  clear hg6 hG5
  go_wp2_with fail
  refine (hN'.out.by16 w6).mono ?_
  rintro e w7 ⟨rfl, hg7⟩
  have hG7 := hid (hG6.out.trans ((below_of_grown hg7).mono hG6.out.size))
  clear hg7 hG6
  have hP1 := hid (own_mono hO13.out hG7.out (Nat.le_refl _))
  have hP2 := hid (own_mono hO23.out hG7.out (Nat.le_refl _))
  have hP3 := hid (own_mono hO3.out hG7.out (Nat.le_refl _))
  have hB7 := hid (hB3.out.trans (hG7.out.mono hB3.out.size))
  clear hO1 hO2 hO3 hO12 hO13 hO23 hB1 hB2 hB3 hG7
  go_wp2_with fail
  refine (same19 g1 g3 24 c1 c3 (fun i => ((16 + i : Nat) : Int)) ar w7 (by decide) (cells_gr hP1.out) (cells_gr hP3.out)).mono ?_
  rintro e w' ⟨rfl, q1, rfl⟩
  go_wp2_with fail
  refine (same19 g2 g3 24 c2 c3 (fun i => ((16 + i : Nat) : Int)) ar (w7.drewN q1) (by decide) (cells_gr (own_drewN hP2.out q1)) (cells_gr (own_drewN hP3.out q1))).mono ?_
  rintro e w' ⟨rfl, q2, rfl⟩
  obtain ⟨w8, hw8⟩ : ∃ w8, w8 = (w7.drewN q1).drewN q2 := ⟨_, rfl⟩
  have hB8 : Hid (Below w.heap.size w w8) := by
    have h : Below w.heap.size w ((w7.drewN q1).drewN q2) := below_drewN' (below_drewN' hB7.out q1) q2
    rw [← hw8] at h
    exact h
  have hQ1 : Hid (w8.ownsRow w.heap.size 58 2 (.slice (some ⟨g1, 0, none⟩) 24 c1) 24 (pairsM grF grG 0 24)) := by
    have h := own_drewN (own_drewN hP1.out q1) q2
    rw [← hw8] at h
    exact h
  have hQ2 : Hid (w8.ownsRow w.heap.size 58 2 (.slice (some ⟨g2, 0, none⟩) 24 c2) 24 (pairsM grF grG 0 24)) := by
    have h := own_drewN (own_drewN hP2.out q1) q2
    rw [← hw8] at h
    exact h
  rw [← hw8]
  clear hw8 hP1 hP2 hP3 hB7
  go_wp2_with fail
  have h20 := apart20 (w8.alloc (.cells #[.slice (some ⟨g1, 0, none⟩) 24 c1, .slice (some ⟨g2, 0, none⟩) 24 c2] 29)) w.heap.size w8.heap.size 0 2 _ (ap_two2 hQ1.out hQ2.out hne.out) (by have := hB8.out.size; simp; omega) (by simp) (by simp) (fun i hi => by
    match i, hi with
    | 0, _ => exact (by decide : 24 ≤ 1000000)
    | 1, _ => exact (by decide : 24 ≤ 1000000)) (fun i hi => by
    match i, hi with
    | 0, _ => exact ⟨rfl, rfl⟩
    | 1, _ => exact ⟨rfl, rfl⟩)
  refine h20.mono ?_
  clear h20
  rintro e w9 ⟨rfl, hb9⟩
  have hB9 : Hid (Below w.heap.size w w9) := hid ((hB8.out.alloc hB8.out.size _).trans hb9)
  clear hb9 hQ1 hQ2 hB8
  go_wp2_with fail
  refine (hN'.out.w18 w9).mono ?_
  rintro e w10 ⟨rfl, hg10⟩
  have hB10 := hid (hB9.out.trans ((below_of_grown hg10).mono hB9.out.size))
  clear hg10
  go_wp2_with fail
  refine (hN'.out.w21 w10).mono ?_
  rintro e w11 ⟨rfl, hg11⟩
  have hB11 := hid (hB10.out.trans ((below_of_grown hg11).mono hB10.out.size))
  clear hg11
  have hss : (s.toList == s.toList) = true := beq_self_eq_true _
  have hnn : (n == n) = true := beq_self_eq_true _
  have hoo : (ok == ok) = true := beq_self_eq_true _
  rcases hX.out with ⟨rfl, rfl, h1, h2⟩ | ⟨rfl, h3⟩
  · have hl1 : ((16 : Int) ≤ a) = True := eq_true h1
    have hl2 : (a ≤ (39 : Int)) = True := eq_true h2
    have haa : (a == a) = true := beq_self_eq_true _
    clear h1 h2
    go_wp2_with fail
    go_ret
    exact ⟨rfl, hB11.out⟩
  · by_cases h1 : 16 ≤ x
    · have hl1 : ((16 : Int) ≤ x) = True := eq_true h1
      have hl2 : (x ≤ (39 : Int)) = False := eq_false (fun h => h3 ⟨h1, h⟩)
      clear h1 h3
      go_wp2_with fail
      go_ret
      exact ⟨rfl, hB11.out⟩
    · have hl1 : ((16 : Int) ≤ x) = False := eq_false h1
      clear h1 h3
      go_wp2_with fail
      go_ret
      exact ⟨rfl, hB11.out⟩

theorem host_walk (w : World) (x : Int) (wx : (Lit.int .u32 x).wf = true) (word : ByteArray) (hw : word.size ≤ maxLen) : Calls Try.prog 7 #[.int .u32 x, .string word] w fun e w' => e = .returned (.bool true) ∧ Below w.heap.size w w' := by
  have hx := wf_u32.1 wx
  by_cases h : 16 ≤ x ∧ x ≤ 39
  · obtain ⟨k, hk⟩ := Int.eq_ofNat_of_zero_le (show 0 ≤ x - 16 by omega)
    have hk24 : k < 24 := by omega
    have hxk : x = 16 + k := by omega
    exact host_case w x word (nm k) (16 + (k : Int)) true ⟨fun w => word18 k hk24 x hxk w, fun w => word21 k hk24 x hxk w, fun w => (byword16 (nm k) w).mono fun e w' h => ⟨(bw_nm k hk24).is h.1, h.2⟩⟩ (.inl ⟨rfl, hxk.symm, h.1, h.2⟩)
  · exact host_case w x word ⟨#[]⟩ 0 false ⟨fun w => word18no x hx h w, fun w => word21no x hx h w, fun w => (byword16 ⟨#[]⟩ w).mono fun e w' h => ⟨bw_none.is h.1, h.2⟩⟩ (.inr ⟨rfl, h⟩)
end Go.Proofs.Ytmbdlhgclkbdiaa
