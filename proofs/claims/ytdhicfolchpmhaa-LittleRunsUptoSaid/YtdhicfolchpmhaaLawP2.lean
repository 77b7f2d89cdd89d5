/- Walks: the law's put at width 2. -/
import Derived.Test.YtdhicfolchpmhaaLawA
import Derived.Test.YtdhicfolchpmhaaWalkV2
namespace Go.Proofs.Ytdhicfolchpmhaa
open Go.RowKit
set_option linter.unusedVariables false
set_option linter.unusedSimpArgs false


def elem2 (l : List Int) (i : Nat) : Int := ofv l i % 65536
theorem elem2_wf (l : List Int) (i : Nat) (h : ∀ x ∈ l, (Lit.int .u64 x).wf = true) : (Lit.int .u16 (elem2 l i)).wf = true := by
  have := ofv_bd l i h
  rw [wf_u16]
  unfold elem2
  omega
theorem elem2_take (l : List Int) (h : ∀ x ∈ l, 0 ≤ x ∧ x < 256 ^ 2) : ((List.range (l.length + 64)).map (elem2 l)).take l.length = l := by
  refine List.ext_getElem (by simp) fun i h1 h2 => ?_
  have h3 := h l[i] (List.getElem_mem h2)
  have h4 : ofv l i = l[i] := by rw [ofv_in l i h2]; simp [List.getD, h2]
  simp only [List.getElem_take, List.getElem_map, List.getElem_range]
  unfold elem2
  rw [h4]
  try omega

set_option maxHeartbeats 2000000 in
set_option maxRecDepth 100000 in
theorem lput2 (ao : Option Addr) (n cap : Nat) (l : List Int) (w : World) (hn : n = l.length) (hl : l.length * 8 ≤ 140737488351232) (hi : Ints .u64 w ao l) (hx : ∀ x ∈ l, 0 ≤ x ∧ x < 256 ^ 2) :
    Calls Try.prog 24 #[.int .i64 2, .slice ao n cap] w fun e w' => ∃ v, e = .returned (.tuple #[v, .bool true]) ∧ w'.ownsRow w.heap.size 5 1 v (n * 2) ((putL 2 l).map (Value.int .u8)) ∧ Below w.heap.size w w' := by
  subst hn
  have hI := hid hi
  clear hi
  have hX := hid hx
  clear hx
  go_enter Try.func24, Try.ntmps24
  go_wp2_with fail
  go_loopw [11, 12] (fun v i wr => ∃ k : Nat, k ≤ l.length + 64 ∧ i = .int .i64 k ∧ wr.ownsRow w.heap.size 114 1 v k (((List.range k).map (elem2 l)).map (Value.int .u16)) ∧ Below w.heap.size w wr) (fun _ i _ => l.length + 64 - (intOf i).toNat)
  case atStart => exact ⟨0, Nat.zero_le _, rfl, World.ownsRow_nil _ _ _ _, Below.refl _ _⟩
  case round =>
    obtain ⟨k, hk, rfl, hown, hb⟩ := hrel
    have hsz := hb.size
    have hO := hid hown
    have hB := hid hb
    clear hown hb
    by_cases hlt : k < l.length + 64
    · have HX := hid (range_snoc (elem2 l) k)
      have hbd := ofv_bd l k hI.out.wf
      have hEl : Hid (elem2 l k = ofv l k % 65536) := rfl
      have hIr := hid (hI.out.mono hB.out)
      go_wp2_with (first
        | (go_at_call 60; go_must (refine (of_any _ _ _ l _ _ rfl (by omega) (by omega) hIr.out).mono ?_); rintro e w' ⟨rfl, rfl⟩)
        | (at_builtin; go_must (refine wpList_append_new rfl _ _ 113 rfl w.heap.size 114 114 (.int .u16 0) 1 2 1 Try.underlying113 Try.infoE2 rfl (by decide) _ k _ [.int .u16 (ofv l k % 65536)] (0, 0) hO.out rfl (by simp [Value.oneCell']) (by unfold maxLen; omega) (by omega) hsz rfl rfl ?_); intro v' w1 hown' hb' _))
      go_roundw
      case rel => exact ⟨k + 1, by omega, by go_num, by rw [HX.out, hEl.out]; simpa using hown', hB.out.trans hb'⟩
      case measure => simp [intOf]; omega
    · have hk2 : k = l.length + 64 := by omega
      subst hk2
      obtain ⟨g, c2, hv, hg1, hg2, hnc, hcm⟩ := own_shape hO.out (by omega)
      rw [hv] at hO ⊢
      clear hv
      unfold maxLen at hcm
      have hwf : Hid (∀ x ∈ (List.range (l.length + 64)).map (elem2 l), (Lit.int .u16 x).wf = true) := by
        intro x hx
        obtain ⟨i, _, rfl⟩ := List.mem_map.1 hx
        exact elem2_wf l i hI.out.wf
      have hL : Hid (Ints .u16 wr (some ⟨g, 0, none⟩) ((List.range (l.length + 64)).map (elem2 l))) := by
        obtain ⟨a2, c3, hv3, hI3, -⟩ := ints_of_own hO.out hwf.out
        simp only [Value.slice.injEq] at hv3
        obtain ⟨rfl, -, -⟩ := hv3
        exact hI3
      have hP : Hid (Ints .u16 wr (some ⟨g, 0, none⟩) l) := by
        have := hL.out.take l.length
        rwa [elem2_take l hX.out] at this
      have hIr := hid (hI.out.mono hB.out)
      go_wp2_with fail
      refine (put2 _ _ _ l _ rfl (by omega) hP.out).mono ?_
      rintro e w1 ⟨v1, rfl, hown1, hb1⟩
      have hO1 := hid hown1
      have hB1 := hid hb1
      have hL1 := hid (hL.out.mono hb1)
      have hI1 := hid (hIr.out.mono hb1)
      clear hown1 hb1
      obtain ⟨c, hcl⟩ : ∃ c : List Int, c = (List.range (l.length + 64)).map (elem2 l) := ⟨_, rfl⟩
      have hC := hid hcl
      clear hcl
      rw [← hC.out] at hL1
      obtain ⟨b3, off3, hao3, hc3⟩ := hL1.out.at
      have hcl : Hid (c.length = l.length + 64) := by unfold Hid; rw [hC.out]; simp
      have hgo : some (⟨g, 0, none⟩ : Addr) = some ⟨b3, off3, none⟩ := by
        rcases hao3 with h | h
        · have := hcl.out; omega
        · exact h
      simp only [Option.some.injEq, Addr.mk.injEq, and_true] at hgo
      obtain ⟨rfl, rfl⟩ := hgo
      clear hao3
      go_wp2_with fail
      go_loopw [14] (fun i wq => ∃ k q : Nat, k ≤ l.length + 64 ∧ i = .int .i64 k ∧ Hid (wq = w1.drewN q)) (fun i _ => l.length + 64 - (intOf i).toNat)
      case atStart => exact ⟨0, 0, Nat.zero_le _, rfl, rfl⟩
      case round =>
        obtain ⟨k, q, hk, rfl, hw⟩ := hrel
        by_cases hlt2 : k < l.length + 64
        · have hcell := hc3.out k (by have := hcl.out; omega)
          have hcv : c.getD k 0 = elem2 l k := by rw [hC.out]; simp [List.getD, hlt2]
          rw [hcv] at hcell
          simp only [Nat.zero_add] at hcell
          have hcell' : wr.cell? ⟨g, k, none⟩ = some (.int .u16 (ofv l k % 65536)) := by rw [hw.out]; exact hcell
          clear hcell hcv
          have hI2 : Hid (Ints .u64 wr ao l) := by rw [hw.out]; exact hI1.out.drewN q
          have hbd := ofv_bd l k hI.out.wf
          have hx1 : (k : Int) < (l.length : Int) + 64 := by omega
          have hbb : ((ofv l k % 65536) != (ofv l k % 65536)) = false := bne_eq_false_iff_eq.2 rfl
          have hwr : IntKind.u16.wrap (ofv l k) = ofv l k % 65536 := IntKind.wrap_u16 _
          go_wp2_with fail
          go_quiet ((go_at_call 60; exact quiet_eq (of_any _ _ _ l _ _ rfl (by omega) (by omega) (hI2.out.drewN _))))
          go_wp2_with fail
          go_roundw
          case rel => exact ⟨k + 1, q + nq, by omega, by go_num, by unfold Hid; rw [hw.out]; simp⟩
          case measure => simp [intOf]; omega
        · go_wp2_with fail
          go_ret2
          refine ⟨_, rfl, ?_, ?_⟩
          · rw [hw.out]; exact own_base (own_drewN hO1.out q) hB.out.size
          · rw [hw.out]; exact below_drewN' (hB.out.trans (hB1.out.mono hB.out.size)) q
end Go.Proofs.Ytdhicfolchpmhaa
