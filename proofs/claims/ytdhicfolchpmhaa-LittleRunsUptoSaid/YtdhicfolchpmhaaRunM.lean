/- Walks: LittleMends. -/
import Derived.Test.YtdhicfolchpmhaaRunC
import Derived.Test.YtdhicfolchpmhaaNumTop
import Derived.Test.YtdhicfolchpmhaaLawS
namespace Go.Proofs.Ytdhicfolchpmhaa
open Go.ChangeShapes Go.WideShapes Go.ChangeAt Go.RowKit
set_option linter.unusedVariables false
set_option linter.unusedSimpArgs false

theorem Rn.wrs {w : World} {B : Nat} {v : Value} {R : List RunW} (h : Rn w B v R) (hb : ∀ r ∈ R, Byt r.l) (ha : ∀ r ∈ R, r.at_ ≤ 4294967295 ∧ r.l.length ≤ 100000000) : ∃ ao c, v = .slice ao R.length c ∧ Wrs w ao R := by
  obtain ⟨ao, c, hv, hcase⟩ := own_any_shape h.own
  refine ⟨ao, c, hv, ⟨?_, fun i hi => ?_, fun i hi => (ha _ (List.getElem_mem hi)).1, fun i hi => (ha _ (List.getElem_mem hi)).2⟩⟩
  · rcases hcase with h0 | ⟨g, rfl⟩
    · exact ⟨0, 0, .inl h0, fun i hi => by omega⟩
    · refine ⟨g, 0, .inr rfl, fun i hi => ?_⟩
      have ho := h.own
      rw [hv] at ho
      have hl := run_cells_len R
      have h1 := ho.cellAt (i * 2) (by omega)
      have h2 := ho.cellAt (i * 2 + 1) (by omega)
      rw [(run_cells_get R i hi).1] at h1
      rw [(run_cells_get R i hi).2] at h2
      rw [Nat.zero_add]
      exact ⟨h1, h2⟩
  · have ho := h.sep.own (i + 1) (by simpa using hi)
    simp only [List.getElem_cons_succ, List.getElem_map, RunW.row] at ho
    obtain ⟨so, c, hv, hI, -⟩ := ints_of_own ho (ints_of_byt (hb _ (List.getElem_mem hi)))
    exact ⟨so, c, hv, hI⟩
/-- what the runs of two lists are -/
theorem runsL_facts {x y : List Int} {R : List RunW} (hm : R.map RunW.two = runsL x y) (hxy : x.length = y.length) (hl : x.length ≤ 100000000) (hy : Byt y) : (∀ r ∈ R, Byt r.l) ∧ (∀ r ∈ R, r.at_ ≤ 4294967295 ∧ r.l.length ≤ 100000000) ∧ R.length ≤ 100000000 := by
  have h1 : ∀ r ∈ R, r.two ∈ runsL x y := fun r hr => hm ▸ List.mem_map_of_mem hr
  refine ⟨fun r hr b hb => ?_, fun r hr => ?_, ?_⟩
  · exact hy b (runsL_byt (x := x) (y := y) x.length r.two (h1 r hr) (by omega) b hb)
  · have := runsD_end _ _ x.length r.two (h1 r hr)
    simp only [RunW.two] at this
    omega
  · have h2 := congrArg List.length hm
    have h3 := runsD_len (fun i => x.getD i 0) (fun i => y.getD i 0) x.length
    rw [List.length_map] at h2
    unfold runsL at h2
    omega

set_option maxHeartbeats 2000000 in
set_option maxRecDepth 100000 in
theorem mends_walk (w : World) (ao : Option Addr) (c1 : Nat) (x : List Int) (hx : Ints .u8 w ao x) (hxl : x.length ≤ 1048576) (bo : Option Addr) (c2 : Nat) (y : List Int) (hy : Ints .u8 w bo y) (hyl : y.length ≤ 1048576)
    (ro : Option Addr) (rc : Nat) (R : List RunW) (hr : Wrs w ro R) (hrl : R.length ≤ 1048576) :
    Calls Try.prog 13 #[.slice ao x.length c1, .slice bo y.length c2, .slice ro R.length rc] w fun e w' => e = .returned (.bool true) ∧ Below w.heap.size w w' := by
  have hX := hid hx
  have hY := hid hy
  have hR := hid hr
  have hYB := hid (byt_of_ints hy)
  clear hx hy hr
  go_enter Try.func13, Try.ntmps13
  go_wp2_with fail
  refine (lives_any _).mono ?_
  rintro e w1 ⟨rfl, hb1⟩
  have hX1 := hid (hX.out.mono hb1)
  have hY1 := hid (hY.out.mono hb1)
  have hR1 := hid (hR.out.mono hb1)
  have hB1 := hid hb1
  clear hb1 hX hY hR
  go_wp2_with fail
  by_cases hne : x.length = y.length
  · have hNe := hid hne
    have h55 := runs55 ao bo x.length c1 c2 x y w1 rfl hne (by omega) hX1.out hY1.out
    rw [hne] at h55 ⊢
    refine h55.mono ?_
    clear h55
    rintro e w2 ⟨v, R1, rfl, hRn, hm, hb2⟩
    obtain ⟨f1, f2, f3⟩ := runsL_facts hm hne (by omega) hYB.out
    obtain ⟨ro1, rc1, hv, hW1⟩ := hRn.wrs f1 f2
    subst hv
    have hM := hid hm
    have hW2 := hid hW1
    have hX2 := hid (hX1.out.mono hb2)
    have hY2 := hid (hY1.out.mono hb2)
    have hR2 := hid (hR1.out.mono hb2)
    have hB2 := hid (hB1.out.trans (hb2.mono hB1.out.size))
    have hF3 : R1.length ≤ 100000000 := f3
    clear hRn hm hb2 f1 f2 f3 hW1 hX1 hY1 hR1 hB1
    have hok1 := hid (runsL_mend x y hNe.out)
    have hlx := hid hne.symm
    obtain ⟨n, hn⟩ : ∃ n, n = y.length := ⟨_, rfl⟩
    have hNy := hid hn
    have hNx := hid (hn.trans hne.symm)
    rw [← hn] at hyl ⊢
    clear hne hn hxl
    go_wp2_with fail
    have h52 := mend52 ao n c1 x ro1 rc1 R1 w2 hNx.out (by omega) hF3 hX2.out hW2.out
    refine h52.mono ?_
    clear h52
    rintro e w3 ⟨hcase, hb3⟩
    obtain ⟨v3, rfl, ho3⟩ := (hcase.resolve_right (fun h => by have := h.1; rw [hM.out, hNx.out, hok1.out.2] at this; cases this)).2
    rw [hM.out, hok1.out.1] at ho3
    obtain ⟨a3, k3, hv3, hI3, -⟩ := ints_of_own ho3 (ints_of_byt hYB.out)
    rw [← hNy.out] at hv3
    subst hv3
    have hI3' := hid hI3
    have hW3 := hid (hW2.out.mono hb3)
    have hX3 := hid (hX2.out.mono hb3)
    have hY3 := hid (hY2.out.mono hb3)
    have hR3 := hid (hR2.out.mono hb3)
    have hB3 := hid (hB2.out.trans (hb3.mono hB2.out.size))
    clear hcase ho3 hI3 hb3 hW2 hX2 hY2 hR2 hB2 hok1
    go_wp2_with fail
    have h27 := same_any a3 n k3 y bo n c2 y w3 hNy.out hNy.out (by rw [← hNy.out]; omega) hI3'.out hY3.out
    refine h27.mono ?_
    clear h27
    rintro e w4 ⟨rfl, q, rfl⟩
    rw [show decide (y = y) = true from decide_eq_true rfl]
    have hb4 := below_drewN' (Below.refl w3.heap.size w3) q
    have hW4 := hid (hW3.out.mono hb4)
    have hX4 := hid (hX3.out.mono hb4)
    have hY4 := hid (hY3.out.mono hb4)
    have hR4 := hid (hR3.out.mono hb4)
    have hB4 := hid (hB3.out.trans (hb4.mono hB3.out.size))
    clear hb4 hW3 hX3 hY3 hR3 hB3 hI3'
    generalize w3.drewN q = w4 at *
    go_wp2_with fail
    have h52 := mend52 ao n c1 x ro rc R w4 hNx.out (by omega) (by omega) hX4.out hR4.out
    refine h52.mono ?_
    clear h52
    rintro e w5 ⟨hcase, hb5⟩
    have hW5 := hid (hW4.out.mono hb5)
    have hX5 := hid (hX4.out.mono hb5)
    have hY5 := hid (hY4.out.mono hb5)
    have hR5 := hid (hR4.out.mono hb5)
    have hB5 := hid (hB4.out.trans (hb5.mono hB4.out.size))
    clear hb5 hW4 hX4 hY4 hR4 hB4
    rcases hcase with ⟨hok, v5, rfl, ho5⟩ | ⟨-, rfl⟩
    · have hOk := hid hok
      have hZB : Byt (mendR x (R.map RunW.two)) := by
        have hbx := byt_of_ints hX5.out
        have hall : ∀ r ∈ R.map RunW.two, Byt r.2 := fun r hr => by
          obtain ⟨u, hu, rfl⟩ := List.mem_map.1 hr
          obtain ⟨i, hi, rfl⟩ := List.getElem_of_mem hu
          obtain ⟨so, c, _, h⟩ := hR5.out.ints i hi
          exact byt_of_ints h
        have key : ∀ (rs : Runz) (b : List Int), Byt b → (∀ r ∈ rs, Byt r.2) → Byt (mendR b rs) := fun rs => by
          induction rs with
          | nil => intro b hb _; exact hb
          | cons r rs ih =>
            intro b hb hr
            refine ih (laid b r.1 r.2) (fun z hz => ?_) (fun r hr' => hr r (List.mem_cons_of_mem _ hr'))
            unfold laid at hz
            rcases List.mem_append.1 hz with h1 | h1
            · rcases List.mem_append.1 h1 with h2 | h2
              · exact hb z (List.mem_of_mem_take h2)
              · exact hr r List.mem_cons_self z h2
            · exact hb z (List.mem_of_mem_drop h1)
        exact key _ x hbx hall
      have hZl : Hid (x.length = (mendR x (R.map RunW.two)).length) := (mendR_len _ 0 x rfl (by rw [← hNx.out]; exact hok)).symm
      have hLeast := hid (runsL_least x (R.map RunW.two) (by rw [← hNx.out]; exact hok))
      obtain ⟨Z, hZ⟩ : ∃ Z, Z = mendR x (R.map RunW.two) := ⟨_, rfl⟩
      rw [← hZ] at ho5 hZB hZl hLeast
      clear hok hZ hOk
      have hZy := hid (show n = Z.length from hNx.out.trans hZl.out)
      obtain ⟨a5, k5, hv5, hI5, -⟩ := ints_of_own ho5 (ints_of_byt hZB)
      rw [← hZy.out] at hv5
      subst hv5
      have hI5' := hid hI5
      have hZB' := hid hZB
      clear ho5 hI5 hZB
      go_wp2_with fail
      have h55 := runs55 ao a5 n c1 k5 x Z w5 hNx.out hZy.out (by omega) hX5.out hI5'.out
      refine h55.mono ?_
      clear h55
      rintro e w6 ⟨v6, R6, rfl, hRn, hm, hb6⟩
      obtain ⟨f1, f2, f3⟩ := runsL_facts hm hZl.out (by rw [← hNx.out]; omega) hZB'.out
      obtain ⟨ro6, rc6, hv, hW6⟩ := hRn.wrs f1 f2
      subst hv
      have hM6 := hid hm
      have hV6 := hid hW6
      have hF6 : R6.length ≤ 100000000 := f3
      have hW6' := hid (hW5.out.mono hb6)
      have hY6 := hid (hY5.out.mono hb6)
      have hR6 := hid (hR5.out.mono hb6)
      have hI6 := hid (hI5'.out.mono hb6)
      have hB6 := hid (hB5.out.trans (hb6.mono hB5.out.size))
      clear hRn hm hb6 f1 f2 f3 hW6 hW5 hX5 hY5 hR5 hB5 hI5'
      go_wp2_with fail
      refine (weight58 ro6 rc6 R6 w6 hF6 hV6.out).mono ?_
      rintro e w' ⟨rfl, rfl⟩
      go_wp2_with fail
      refine (weight58 ro rc R w6 (by omega) hR6.out).mono ?_
      rintro e w' ⟨rfl, rfl⟩
      have hle : ((weigh (R6.map RunW.two) : Int) ≤ (weigh (R.map RunW.two) : Int)) = True := eq_true (by
        rw [hM6.out]
        have := hLeast.out
        omega)
      go_wp2_with fail
      have h27 := same_any a5 n k5 Z bo n c2 y w6 hZy.out hNy.out (by rw [← hZy.out]; omega) hI6.out hY6.out
      refine h27.mono ?_
      clear h27
      rintro e w7 ⟨rfl, q7, rfl⟩
      by_cases hZe : Z = y
      · rw [show decide (Z = y) = true from decide_eq_true hZe]
        have hb7 := below_drewN' (Below.refl w6.heap.size w6) q7
        have hW7 := hid (hW6'.out.mono hb7)
        have hR7 := hid (hR6.out.mono hb7)
        have hB7 := hid (hB6.out.trans (hb7.mono hB6.out.size))
        have hle2 : ((weigh (R1.map RunW.two) : Int) ≤ (weigh (R.map RunW.two) : Int)) = True := eq_true (by
          have h1 := hLeast.out
          rw [hZe] at h1
          rw [hM.out]
          omega)
        clear hb7 hle hZe
        go_wp2_with fail
        refine (weight58 ro1 rc1 R1 _ hF3 hW7.out).mono ?_
        rintro e w' ⟨rfl, rfl⟩
        go_wp2_with fail
        refine (weight58 ro rc R _ (by omega) hR7.out).mono ?_
        rintro e w' ⟨rfl, rfl⟩
        go_wp2_with fail
        go_ret
        exact ⟨rfl, hB7.out⟩
      · rw [show decide (Z = y) = false from decide_eq_false hZe]
        clear hZe
        go_wp2_with fail
        go_ret
        exact ⟨rfl, below_drewN' hB6.out q7⟩
    · go_wp2_with fail
      go_ret
      exact ⟨rfl, hB5.out⟩
  · have hq : ((x.length : Int) == (y.length : Int)) = false := beq_eq_false_iff_ne.2 (by omega)
    have h55 := runsNo55 ao bo x.length y.length c1 c2 w1 hne
    refine h55.mono ?_
    clear h55 hne
    rintro e w' ⟨rfl, rfl⟩
    go_wp2_with fail
    go_ret
    exact ⟨rfl, hB1.out⟩

theorem cells104 : Try.prog.cellsOf 104 = 2 := by kernel_rfl
set_option maxRecDepth 100000 in
theorem writes_open (w : World) {H : Type} {enc : TypeId × Value → H} {n : Nat} {v : Value} {y : DataW H × List MemPlace} (h : DataW.trod enc Try.prog w 0 (fun _ => true) true n 90 [v] = some y)
    (hw : Rows.uptoBulk y.1 ≤ 1048576) :
    ∃ ro rc R, v = .slice ro (R : List RunW).length rc ∧ Wrs w ro R ∧ R.length ≤ 1048576 ∧ (∀ r ∈ R, r.l.length ≤ 1048576) := by
  obtain ⟨a, len, cap, hv⟩ : ∃ a len cap, v = .slice a len cap := by
    rcases DataW.trod_slice Try.underlying90 h with ⟨hcs, hx⟩ | ⟨a, len, cap, elems, rest, m, _, hcs, hx, _⟩
    · simp only [List.cons.injEq, and_true] at hcs
      exact ⟨none, 0, 0, hcs⟩
    · simp only [List.cons.injEq, and_true] at hcs
      exact ⟨some a, len, cap, hcs⟩
  subst hv
  obtain ⟨b, off, m, elems, rest, hao, hel, hcap, hmax, hd, heach⟩ := open_rows (d := y.1) (p := y.2) Try.underlying90 cells104 (by decide) ⟨n, h⟩
  by_cases h0 : len = 0
  · subst h0
    exact ⟨a, cap, [], rfl, ⟨⟨0, 0, .inl rfl, fun i hi => absurd hi (by simp)⟩, fun i hi => absurd hi (by simp), fun i hi => absurd hi (by simp), fun i hi => absurd hi (by simp)⟩, Nat.zero_le _, fun r hr => absurd hr (by simp)⟩
  have hds : y.1 = .slice (elems.map (·.1)) (rest.map (·.1)) := by
    rcases hd with ⟨_, h1⟩ | h1
    · omega
    · exact h1
  rw [hds] at hw
  have hbe : Rows.uptoBulkAll (elems.map (·.1)) ≤ 1048576 := by
    simp only [Rows.uptoBulk] at hw
    omega
  have hlen : len ≤ 1048576 := by
    have := bulk_length (elems.map (·.1))
    simp only [List.length_map] at this
    omega
  have each : ∀ i, i < len → ∃ r : RunW, (w.cell? ⟨b, off + i * 2, none⟩ = some (.int .u32 r.at_) ∧ w.cell? ⟨b, off + i * 2 + 1, none⟩ = some r.v) ∧ (∃ so c, r.v = .slice so r.l.length c ∧ Ints .u8 w so r.l) ∧ r.at_ ≤ 4294967295 ∧ r.l.length ≤ 1048576 := by
    intro i hi
    obtain ⟨cs, y, hcs, hcell, hy, ht⟩ := heach i hi
    obtain ⟨xs, m, _, hx, hl5, hxs, hf⟩ := DataW.trod_struct Try.underlying104 ht
    match cs, hcs with
    | [c0, c1], _ =>
      obtain ⟨y0, z0, t0⟩ := fld hf hxs 0 _ rfl 1 (by kernel_rfl) [c0] rfl 24 rfl
      obtain ⟨y1, z1, t1⟩ := fld hf hxs 1 _ rfl 1 (by kernel_rfl) [c1] rfl 23 rfl
      have hyb : Rows.uptoBulk y.1 ≤ 1048576 := by
        have := bulk_mem (show y.1 ∈ elems.map (·.1) from List.mem_map_of_mem (List.mem_of_getElem? hy))
        omega
      have hpart : Rows.uptoBulk y1.1 ≤ 1048576 := by
        rw [hx] at hyb
        simp only [Rows.uptoBulk] at hyb
        have := bulk_mem (show y1.1 ∈ xs.map (·.1) from List.mem_map_of_mem (List.mem_of_getElem? z1))
        omega
      obtain ⟨xa, rfl, wa⟩ := fld_int Try.underlying24 t0
      obtain ⟨bo, l2, rst2, cp2, rfl, hI2, hc12, hc22, hd2⟩ := fld_ints Try.underlying23 Try.underlying5 cells5 t1
      have hwa := wf_u32.1 wa
      have hb2 := bulk_ints hc12 hd2
      refine ⟨⟨xa.toNat, .slice bo l2.length cp2, l2⟩, ⟨?_, by simpa using hcell 1 (by decide)⟩, ⟨bo, cp2, rfl, hI2⟩, by show xa.toNat ≤ _; omega, by show l2.length ≤ _; omega⟩
      have := hcell 0 (by decide)
      rw [show ((xa.toNat : Nat) : Int) = xa by omega]
      simpa using this
  obtain ⟨R, hR, hall⟩ := pick_list (fun i (r : RunW) => (w.cell? ⟨b, off + i * 2, none⟩ = some (.int .u32 r.at_) ∧ w.cell? ⟨b, off + i * 2 + 1, none⟩ = some r.v) ∧ (∃ so c, r.v = .slice so r.l.length c ∧ Ints .u8 w so r.l) ∧ r.at_ ≤ 4294967295 ∧ r.l.length ≤ 1048576) len each
  refine ⟨a, cap, R, by rw [hR], ⟨⟨b, off, by rw [hR]; exact hao, fun i hi => (hall i hi).1⟩, fun i hi => (hall i hi).2.1, fun i hi => (hall i hi).2.2.1, fun i hi => by have := (hall i hi).2.2.2; omega⟩, by omega, fun r hr => ?_⟩
  obtain ⟨i, hi, rfl⟩ := List.getElem_of_mem hr
  exact (hall i hi).2.2.2

set_option maxRecDepth 100000 in
theorem mends_top (w : World) (ao : Option Addr) (c1 : Nat) (x : List Int) (hx : Ints .u8 w ao x) (hc1 : x.length ≤ c1) (hm1 : c1 ≤ maxLen) (bo : Option Addr) (c2 : Nat) (y : List Int) (hy : Ints .u8 w bo y) (hc2 : y.length ≤ c2) (hm2 : c2 ≤ maxLen)
    {H : Type} {enc : TypeId × Value → H} {base : Nat} {p : List MemPlace} (v : Value) (d : DataW H) (hval : Value.okWide Try.prog w .any base 90 v) (h : DataW.Trod enc Try.prog w 0 (fun _ => true) true 90 v d p)
    (hw : Rows.uptoBulk d ≤ 1048576) (hb1 : c1 ≤ 1048576) (hb2 : c2 ≤ 1048576) :
    Calls Try.prog 13 #[.slice ao x.length c1, .slice bo y.length c2, v] w fun e w' => e = .returned (.bool true) ∧ Below w.heap.size w w' := by
  obtain ⟨a, len, cap, rfl⟩ := okWide_slice Try.underlying90 hval
  obtain ⟨fuel, hf⟩ := h
  obtain ⟨ro, rc, R, hv, hW, hl, -⟩ := writes_open w (y := (d, p)) hf hw
  rw [hv]
  exact mends_walk w ao c1 x hx (by omega) bo c2 y hy (by omega) ro rc R hW hl
end Go.Proofs.Ytdhicfolchpmhaa

namespace Go.Proofs.Ytdhicfolchpmhaa
open Go.ChangeShapes Go.WideShapes Go.ChangeAt Go.RowKit
set_option linter.unusedVariables false
set_option linter.unusedSimpArgs false

structure RunRow where
  mend : Bool
  fo : Option Addr
  fc : Nat
  from_ : List Int
  to : Option Addr
  tc : Nat
  to_ : List Int
  ro : Option Addr
  rc : Nat
  R : List RunW

structure RunRow.Cells (w : World) (blk off : Nat) (r : RunRow) : Prop where
  c0 : w.cell? ⟨blk, off, none⟩ = some (.bool r.mend)
  c1 : w.cell? ⟨blk, off + 1, none⟩ = some (.slice r.fo r.from_.length r.fc)
  c2 : w.cell? ⟨blk, off + 2, none⟩ = some (.slice r.to r.to_.length r.tc)
  c3 : w.cell? ⟨blk, off + 3, none⟩ = some (.slice r.ro r.R.length r.rc)
structure RunRow.Lies (w : World) (r : RunRow) : Prop where
  hf : Ints .u8 w r.fo r.from_
  ht : Ints .u8 w r.to r.to_
  hr : Wrs w r.ro r.R
  nf : r.from_.length ≤ 1048576
  nt : r.to_.length ≤ 1048576
  nr : r.R.length ≤ 1048576
theorem RunRow.Cells.mono {w w' : World} {blk off : Nat} {r : RunRow} (h : r.Cells w blk off) (hb : Below w.heap.size w w') : r.Cells w' blk off :=
  ⟨(hb.cell (World.block_lt_of_cell? w _ h.c0)).trans h.c0, (hb.cell (World.block_lt_of_cell? w _ h.c1)).trans h.c1, (hb.cell (World.block_lt_of_cell? w _ h.c2)).trans h.c2, (hb.cell (World.block_lt_of_cell? w _ h.c3)).trans h.c3⟩
theorem RunRow.Lies.mono {w w' : World} {r : RunRow} (h : r.Lies w) (hb : Below w.heap.size w w') : r.Lies w' := ⟨h.hf.mono hb, h.ht.mono hb, h.hr.mono hb, h.nf, h.nt, h.nr⟩

theorem sum_bulk {H : Type} : ∀ (rows : List RunRow) (es : List (DataW H)), rows.length = es.length → (∀ i (h : i < rows.length) (h' : i < es.length), rows[i].to_.length ≤ Rows.uptoBulk es[i]) → (rows.map (fun r => r.to_.length)).sum ≤ Rows.uptoBulkAll es
  | [], _, _, _ => by simp
  | r :: rows, [], h, _ => by simp at h
  | r :: rows, e :: es, h, hh => by
    have h1 := hh 0 (by simp) (by simp)
    have h2 := sum_bulk rows es (by simpa using h) (fun i a b => hh (i + 1) (by simpa using a) (by simpa using b))
    simp only [List.map_cons, List.sum_cons, Rows.uptoBulkAll]
    simp only [List.getElem_cons_zero] at h1
    omega
theorem cells92 : Try.prog.cellsOf 92 = 4 := by kernel_rfl
set_option maxRecDepth 100000 in
theorem runs_open (w : World) {H : Type} {enc : TypeId × Value → H} {base : Nat} {p : List MemPlace} (v : Value) (d : DataW H) (hval : Value.okWide Try.prog w .any base 88 v) (h : DataW.Trod enc Try.prog w 0 (fun _ => true) true 88 v d p)
    (hw : Rows.uptoBulk d ≤ 1048576) :
    ∃ a len cap, v = .slice a len cap ∧ (len = 0 ∨ ∃ (b off : Nat) (rows : List RunRow), a = some ⟨b, off, none⟩ ∧ rows.length = len ∧ len ≤ 1048576 ∧ (∀ i (h : i < rows.length), (rows[i]).Cells w b (off + i * 4) ∧ (rows[i]).Lies w) ∧ (rows.map (fun r => r.to_.length)).sum ≤ 1048576) := by
  obtain ⟨a, len, cap, rfl⟩ := okWide_slice Try.underlying88 hval
  obtain ⟨b, off, n, elems, rest, hao, hel, hcap, hmax, hd, heach⟩ := open_rows Try.underlying88 cells92 (by decide) h
  refine ⟨a, len, cap, rfl, ?_⟩
  by_cases h0 : len = 0
  · exact .inl h0
  rcases hao with h1 | rfl
  · exact absurd h1 h0
  have hds : d = .slice (elems.map (·.1)) (rest.map (·.1)) := by
    rcases hd with ⟨_, h1⟩ | h1
    · omega
    · exact h1
  subst hds
  have hbe : Rows.uptoBulkAll (elems.map (·.1)) ≤ 1048576 := by
    simp only [Rows.uptoBulk] at hw
    omega
  have hlen : len ≤ 1048576 := by
    have := bulk_length (elems.map (·.1))
    simp only [List.length_map] at this
    omega
  have each : ∀ i, i < len → ∃ r : RunRow, (r.Cells w b (off + i * 4) ∧ r.Lies w) ∧ ∀ y, elems[i]? = some y → r.to_.length ≤ Rows.uptoBulk y.1 := by
    intro i hi
    obtain ⟨cs, y, hcs, hcell, hy, ht⟩ := heach i hi
    obtain ⟨xs, m, _, hx, hl5, hxs, hf⟩ := DataW.trod_struct Try.underlying92 ht
    match cs, hcs with
    | [c0, c1, c2, c3], _ =>
      obtain ⟨y0, z0, t0⟩ := fld hf hxs 0 _ rfl 1 (by kernel_rfl) [c0] rfl 4 rfl
      obtain ⟨y1, z1, t1⟩ := fld hf hxs 1 _ rfl 1 (by kernel_rfl) [c1] rfl 23 rfl
      obtain ⟨y2, z2, t2⟩ := fld hf hxs 2 _ rfl 1 (by kernel_rfl) [c2] rfl 23 rfl
      obtain ⟨y3, z3, t3⟩ := fld hf hxs 3 _ rfl 1 (by kernel_rfl) [c3] rfl 90 rfl
      have hyb : Rows.uptoBulk y.1 ≤ 1048576 := by
        have := bulk_mem (show y.1 ∈ elems.map (·.1) from List.mem_map_of_mem (List.mem_of_getElem? hy))
        omega
      have hpart : ∀ z : DataW H × List MemPlace, z ∈ xs → Rows.uptoBulk z.1 ≤ 1048576 := by
        intro z hz
        rw [hx] at hyb
        simp only [Rows.uptoBulk] at hyb
        have := bulk_mem (show z.1 ∈ xs.map (·.1) from List.mem_map_of_mem hz)
        omega
      obtain ⟨xb, rfl⟩ := fld_bool Try.underlying4 t0
      obtain ⟨fo, l1, rst1, cp1, rfl, hI1, hc11, hc21, hd1⟩ := fld_ints Try.underlying23 Try.underlying5 cells5 t1
      obtain ⟨to, l2, rst2, cp2, rfl, hI2, hc12, hc22, hd2⟩ := fld_ints Try.underlying23 Try.underlying5 cells5 t2
      obtain ⟨ro, rc, R, rfl, hW, hRl, -⟩ := writes_open w t3 (hpart y3 (List.mem_of_getElem? z3))
      have hb1 := bulk_ints hc11 hd1
      have hb2 := bulk_ints hc12 hd2
      have hp1 := hpart y1 (List.mem_of_getElem? z1)
      have hp2 := hpart y2 (List.mem_of_getElem? z2)
      refine ⟨⟨xb, fo, cp1, l1, to, cp2, l2, ro, rc, R⟩,
        ⟨⟨by simpa using hcell 0 (by decide), by simpa using hcell 1 (by decide), by simpa using hcell 2 (by decide), by simpa using hcell 3 (by decide)⟩,
        ⟨hI1, hI2, hW, (by show l1.length ≤ 1048576; omega), (by show l2.length ≤ 1048576; omega), hRl⟩⟩, fun y' hy' => ?_⟩
      rw [hy, Option.some.injEq] at hy'
      subst hy'
      show l2.length ≤ _
      have hb3 := bulk_mem (show y2.1 ∈ xs.map (·.1) from List.mem_map_of_mem (List.mem_of_getElem? z2))
      rw [hx]
      simp only [Rows.uptoBulk]
      omega
  obtain ⟨rows, hrl, hrr⟩ := pick_list (fun i (r : RunRow) => (r.Cells w b (off + i * 4) ∧ r.Lies w) ∧ ∀ y, elems[i]? = some y → r.to_.length ≤ Rows.uptoBulk y.1) len each
  refine .inr ⟨b, off, rows, rfl, hrl, hlen, fun i hi => (hrr i hi).1, ?_⟩
  refine Nat.le_trans (sum_bulk rows (elems.map (·.1)) (by rw [hrl, List.length_map, hel]) (fun i h1 h2 => ?_)) hbe
  have h3 := (hrr i h1).2 (elems[i]'(by simpa using h2)) (List.getElem?_eq_getElem _)
  simpa using h3
end Go.Proofs.Ytdhicfolchpmhaa
