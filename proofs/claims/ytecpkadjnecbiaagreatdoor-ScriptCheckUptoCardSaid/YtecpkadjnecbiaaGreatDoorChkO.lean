/- Walks: Check of both. No condition. -/
import Derived.Test.YtecpkadjnecbiaaGreatDoorProg
import Derived.Test.YtecpkadjnecbiaaGreatDoorChkN
import Derived.Outline
namespace Go.Proofs.YtecpkadjnecbiaaGreatDoor
open Go.RowKit
set_option linter.unusedVariables false
set_option linter.unusedSimpArgs false

open Go.Shelf

def deepB (f : FH) : Bool := decide (64 < htS f.body)
def sumU (l : List FH) : Nat := (l.map fun f => f.body.sz).sum
def chkU (u : UT) : Int := if fitsU u then (if u.fs.any deepB then 283 else if 16384 < sumU u.fs then 280 else 0) else 284
theorem chkU_no {u : UT} (h : fitsU u = false) : chkU u = 284 := by unfold chkU; rw [h]; rfl
theorem chkU_deep {u : UT} (h : fitsU u = true) (h2 : u.fs.any deepB = true) : chkU u = 283 := by unfold chkU; rw [h, h2]; rfl
theorem chkU_many {u : UT} (h : fitsU u = true) (h2 : u.fs.any deepB = false) (h3 : 16384 < sumU u.fs) : chkU u = 280 := by unfold chkU; rw [h, h2]; simp [h3]
theorem chkU_ok {u : UT} (h : fitsU u = true) (h2 : u.fs.any deepB = false) (h3 : ¬ 16384 < sumU u.fs) : chkU u = 0 := by unfold chkU; rw [h, h2]; simp [h3]
theorem any_at {α : Type} (f : α → Bool) (l : List α) (k : Nat) (h : k < l.length) : (l.drop k).any f = (f l[k] || (l.drop (k + 1)).any f) := by
  rw [List.drop_eq_getElem_cons h]
  rfl
theorem any_end {α : Type} (f : α → Bool) (l : List α) : (l.drop l.length).any f = false := by
  rw [List.drop_eq_nil_of_le (Nat.le_refl _)]
  rfl
theorem sumU_at (l : List FH) (k : Nat) (h : k < l.length) : sumU (l.drop k) = l[k].body.sz + sumU (l.drop (k + 1)) := by
  unfold sumU
  rw [List.drop_eq_getElem_cons h, List.map_cons, List.sum_cons]
theorem sumU_end (l : List FH) : sumU (l.drop l.length) = 0 := by
  rw [List.drop_eq_nil_of_le (Nat.le_refl _)]
  rfl
theorem sumU_zero (l : List FH) : sumU (l.drop 0) = sumU l := rfl
set_option maxRecDepth 100000 in
set_option maxHeartbeats 4000000 in
theorem check6 (u : UT) (v : Value) (w : World) (ok : u.Ok) (wf : u.Wf) (hv : UIn w false none u v) :
    Calls Tryz.prog 6 #[v] w fun e w' => e = .returned (.int .i64 (chkU u)) ∧ Below w.heap.size w w' := by
  have hV := hid hv
  obtain ⟨vg, vh, vf, rfl, hg, hh, hf⟩ := hv
  obtain ⟨ga, gb, go, gc, rfl, hga, hgi⟩ := SlR.open hg
  obtain ⟨ha, hbk, ho, hc, rfl, hha, hhi⟩ := SlR.open hh
  obtain ⟨fa, fb, fo, fc, rfl, hfa, hfi⟩ := SlR.open hf
  have hG := hid hgi
  have hH := hid hhi
  have hF := hid hfi
  have OK := hid ok
  have WF := hid wf
  have g1 := ok.g
  have g2 := ok.h
  have g3 := ok.f
  obtain ⟨mg, hmg⟩ : ∃ m, m = u.gs.length := ⟨_, rfl⟩
  obtain ⟨mh, hmh⟩ : ∃ m, m = u.hs.length := ⟨_, rfl⟩
  obtain ⟨mf, hmf⟩ : ∃ m, m = u.fs.length := ⟨_, rfl⟩
  rw [← hmg] at hga g1 ⊢
  rw [← hmh] at hha g2 ⊢
  rw [← hmf] at hfa g3 ⊢
  have hMG := hid hmg
  have hMH := hid hmh
  have hMF := hid hmf
  clear hg hh hf hgi hhi hfi ok wf hmg hmh hmf
  have hX0 := hid (SB1.new (Below.refl w.heap.size w) #[.slice ga mg gc, .slice ha mh hc, .slice fa mf fc] 26)
  have hcf := hid (fits13 u (.agg #[.slice ga mg gc, .slice ha mh hc, .slice fa mf fc]) _ OK.out WF.out ((show UIn w false none u (.agg #[.slice ga mg gc, .slice ha mh hc, .slice fa mf fc]) by rw [hMG.out, hMH.out, hMF.out] at *; exact hV.out).mono hX0.out.below))
  clear hga hha hG hH
  go_enter Tryz.func6, Tryz.ntmps6
  go_wp2_with fail
  refine hcf.out.mono ?_
  rintro e w2 ⟨rfl, hb2⟩
  have hX1 := hid (hX0.out.on hb2)
  have p2 := hX1.out.box.cell 2
  simp at p2
  clear hb2 hcf hX0
  cases hfit : fitsU u
  · go_wp2_with fail
    go_ret
    exact ⟨ret_int (chkU_no hfit).symm, hX1.out.below⟩
  have hFit := hid hfit
  clear hfit
  go_wp2_with fail
  clear p2
  go_loopw [2, 3, 12] (fun z s i wr => ∃ k m : Nat, z = .int .i64 0 ∧ s = .int .i64 m ∧ k ≤ mf ∧ i = .int .i64 k ∧ u.fs.any deepB = (u.fs.drop k).any deepB ∧ sumU u.fs = m + sumU (u.fs.drop k) ∧ m ≤ k * 100000000 ∧ Below w.heap.size w wr) (fun _ _ i _ => mf - (intOf i).toNat)
  case atStart => exact ⟨0, 0, rfl, rfl, Nat.zero_le _, rfl, rfl, by simp [sumU_zero], by omega, hX1.out.below⟩
  case round =>
    clear hX1
    obtain ⟨k, m, rfl, rfl, hk, rfl, hal, hsum, hm, hb⟩ := hrel
    have hA := hid hal
    have hSu := hid hsum
    have hB := hid hb
    clear hal hsum
    by_cases hlt : k < mf
    · have hlt' : k < u.fs.length := by have := hMF.out; omega
      obtain ⟨⟨t, y0, _⟩, y1, ⟨pv, y2, hpv⟩, y3, y4, ⟨bv, y5, hbv⟩⟩ := hF.out k hlt'
      have hbl := OK.out.fb _ (List.getElem_mem hlt')
      have hat := hid (any_at deepB u.fs k hlt')
      have hst := hid (sumU_at u.fs k hlt')
      have x0 := cell_on y0 hb
      have x1 := cell_on y1 hb
      have x2 := cell_on y2 hb
      have x3 := cell_on y3 hb
      have x4 := cell_on y4 hb
      have x5 := cell_on y5 hb
      have hka2 : fa = some ⟨fb, fo, none⟩ := by rcases hfa with q | q; (· omega); (· exact q)
      subst hka2
      generalize u.fs[k]'hlt' = a at *
      obtain ⟨at0, nm, ps, ty, op, bd⟩ := a
      obtain ⟨pa, pc, rfl⟩ := hpv.shape'
      obtain ⟨ba, bc, rfl⟩ := hbv.shape'
      simp only [] at x0 x1 x2 x3 x4 x5 hbl hst
      have hd := htS_le bd
      have hdb : htS bd ≤ 100000000 := by omega
      have hY := hid (SB1.new hb #[.int .i64 t, .string nm, .slice pa ps.length pc, .int .u8 ty, .bool op, .slice ba bd.len bc] 39)
      have hBD := hid (And.intro hbv hbl)
      have hcd := hid (deepest14 _ bd (.slice ba bd.len bc) (wr.alloc (.cells #[.int .i64 t, .string nm, .slice pa ps.length pc, .int .u8 ty, .bool op, .slice ba bd.len bc] 39)) (Nat.lt_succ_self _) hbl (hbv.mono (hY.out.below)))
      clear hfa y0 y1 y2 y3 y4 y5 hpv hbv hb hd
      go_wp2_with fail
      refine hcd.out.mono ?_
      rintro e w3 ⟨rfl, hb3⟩
      have hY3 := hid (hY.out.on hb3)
      have q5 := hY3.out.box.cell 5
      simp at q5
      clear hb3 hcd x0 x1 x2 x3 x4 x5 hY
      by_cases hdeep : 64 < htS bd
      · have hE : Hid (u.fs.any deepB = true) := hid (by rw [hA.out, hat.out]; have : deepB ⟨at0, nm, ps, ty, op, bd⟩ = true := (by simpa [deepB] using hdeep); rw [this]; rfl)
        go_wp2_with fail
        go_ret
        exact ⟨ret_int (chkU_deep hFit.out hE.out).symm, hY3.out.below⟩
      have hE : Hid (u.fs.any deepB = (u.fs.drop (k + 1)).any deepB) := hid (by rw [hA.out, hat.out]; have : deepB ⟨at0, nm, ps, ty, op, bd⟩ = false := (by simpa [deepB] using hdeep); rw [this]; rfl)
      have hcm := hid (many15 _ bd (.slice ba bd.len bc) w3 (Nat.lt_succ_self _) hBD.out.2 (hBD.out.1.mono hY3.out.below))
      go_wp2_with fail
      refine hcm.out.mono ?_
      rintro e w4 ⟨rfl, hb4⟩
      have hY4 := hid (hY3.out.on hb4)
      clear hb4 hcm q5 hY3
      go_wp2_with fail
      go_roundw
      case rel => exact ⟨k + 1, m + bd.sz, rfl, by go_num, by omega, by go_num, hE.out, by rw [hSu.out, hst.out]; omega, by omega, hY4.out.below⟩
      case measure => simp [intOf]; omega
    · have hkm : k = mf := by omega
      subst k
      have hE : Hid (u.fs.any deepB = false) := hid (by rw [hA.out]; have := hMF.out; rw [this]; exact any_end _ _)
      have hS : Hid (sumU u.fs = m) := hid (by rw [hSu.out]; have := hMF.out; rw [this, sumU_end]; omega)
      clear hb
      by_cases hmany : 16384 < m
      · go_wp2_with fail
        go_ret
        exact ⟨ret_int (chkU_many hFit.out hE.out (by rw [hS.out]; exact hmany)).symm, hB.out⟩
      · go_wp2_with fail
        go_ret
        exact ⟨ret_int (chkU_ok hFit.out hE.out (by rw [hS.out]; exact hmany)).symm, hB.out⟩
set_option maxRecDepth 100000 in
set_option maxHeartbeats 2000000 in
theorem parts22 (u : UT) (v : Value) (w : World) (ok : u.Ok) (hv : UIn w false none u v) :
    Calls Tryz.prog 22 #[v] w fun e w' => e = .returned (.int .i64 ((sumU u.fs : Nat) : Int)) ∧ Below w.heap.size w w' := by
  obtain ⟨vg, vh, vf, rfl, hg, hh, hf⟩ := hv
  obtain ⟨ga, gb, go, gc, rfl, hga, hgi⟩ := SlR.open hg
  obtain ⟨ha, hbk, ho, hc, rfl, hha, hhi⟩ := SlR.open hh
  obtain ⟨fa, fb, fo, fc, rfl, hfa, hfi⟩ := SlR.open hf
  have hG := hid hgi
  have hH := hid hhi
  have hF := hid hfi
  have OK := hid ok
  have g1 := ok.g
  have g2 := ok.h
  have g3 := ok.f
  obtain ⟨mg, hmg⟩ : ∃ m, m = u.gs.length := ⟨_, rfl⟩
  obtain ⟨mh, hmh⟩ : ∃ m, m = u.hs.length := ⟨_, rfl⟩
  obtain ⟨mf, hmf⟩ : ∃ m, m = u.fs.length := ⟨_, rfl⟩
  rw [← hmg] at hga g1 ⊢
  rw [← hmh] at hha g2 ⊢
  rw [← hmf] at hfa g3 ⊢
  have hMG := hid hmg
  have hMH := hid hmh
  have hMF := hid hmf
  clear hg hh hf hgi hhi hfi ok hmg hmh hmf
  have hX0 := hid (SB1.new (Below.refl w.heap.size w) #[.slice ga mg gc, .slice ha mh hc, .slice fa mf fc] 26)
  clear hga hha hG hH
  go_enter Tryz.func22, Tryz.ntmps22
  go_wp2_with fail
  go_loopw [3, 4] (fun s i wr => ∃ k m : Nat, s = .int .i64 m ∧ k ≤ mf ∧ i = .int .i64 k ∧ sumU u.fs = m + sumU (u.fs.drop k) ∧ m ≤ k * 100000000 ∧ SB1 w w.heap.size #[.slice ga mg gc, .slice ha mh hc, .slice fa mf fc] 26 wr) (fun _ i _ => mf - (intOf i).toNat)
  case atStart => exact ⟨0, 0, rfl, Nat.zero_le _, rfl, by simp [sumU_zero], by omega, hX0.out⟩
  case round =>
    clear hX0
    obtain ⟨k, m, rfl, hk, rfl, hsum, hm, hX⟩ := hrel
    have hSu := hid hsum
    have hX1 := hid hX
    have hb := hid hX.below
    have p2 := hX.box.cell 2
    simp at p2
    clear hsum hX
    by_cases hlt : k < mf
    · have hlt' : k < u.fs.length := by have := hMF.out; omega
      obtain ⟨-, -, -, -, -, ⟨bv, y5, hbv⟩⟩ := hF.out k hlt'
      have hbl := OK.out.fb _ (List.getElem_mem hlt')
      have hst := hid (sumU_at u.fs k hlt')
      have x5 := cell_on y5 hb.out
      have hka2 : fa = some ⟨fb, fo, none⟩ := by rcases hfa with q | q; (· omega); (· exact q)
      subst hka2
      generalize u.fs[k]'hlt' = a at *
      obtain ⟨at0, nm, ps, ty, op, bd⟩ := a
      obtain ⟨ba, bc, rfl⟩ := hbv.shape'
      simp only [] at x5 hbl hst
      have hcm := hid (parts39 _ bd (.slice ba bd.len bc) wr (Nat.lt_succ_self _) hbl (hbv.mono hb.out))
      clear hfa y5 hbv
      go_wp2_with fail
      refine hcm.out.mono ?_
      rintro e w3 ⟨rfl, hb3⟩
      have hX3 := hid (hX1.out.on hb3)
      clear hb3 hcm x5 p2
      go_wp2_with fail
      go_roundw
      case rel => exact ⟨k + 1, m + bd.sz, by go_num, by omega, by go_num, by rw [hSu.out, hst.out]; omega, by omega, hX3.out⟩
      case measure => simp [intOf]; omega
    · have hkm : k = mf := by omega
      subst k
      have hS : Hid (sumU u.fs = m) := hid (by rw [hSu.out]; have := hMF.out; rw [this, sumU_end]; omega)
      go_wp2_with fail
      go_ret
      exact ⟨ret_int (by rw [hS.out]), hX1.out.below⟩
theorem sumU_le (l : List FH) (h : ∀ x ∈ l, x.body.sz ≤ 100000000) : sumU l ≤ l.length * 100000000 := by
  induction l with
  | nil => simp [sumU]
  | cons a l ih =>
    have h1 := h a (by simp)
    have h2 := ih (fun x hx => h x (by simp [hx]))
    simp only [sumU, List.map_cons, List.sum_cons, List.length_cons] at h2 ⊢
    omega
set_option maxRecDepth 100000 in
set_option maxHeartbeats 8000000 in
theorem check7 (u : UT) (v : Value) (w : World) (ok : u.Ok) (wf : u.Wf) (hv : UIn w false none u v) :
    Calls Tryz.prog 7 #[v] w fun e w' => e = .returned (.int .i64 (chkU u)) ∧ Below w.heap.size w w' := by
  have hV := hid hv
  obtain ⟨vg, vh, vf, rfl, hg, hh, hf⟩ := hv
  obtain ⟨ga, gb, go, gc, rfl, hga, hgi⟩ := SlR.open hg
  obtain ⟨ha, hbk, ho, hc, rfl, hha, hhi⟩ := SlR.open hh
  obtain ⟨fa, fb, fo, fc, rfl, hfa, hfi⟩ := SlR.open hf
  have hG := hid hgi
  have hH := hid hhi
  have hF := hid hfi
  have OK := hid ok
  have WF := hid wf
  have g1 := ok.g
  have g2 := ok.h
  have g3 := ok.f
  obtain ⟨mg, hmg⟩ : ∃ m, m = u.gs.length := ⟨_, rfl⟩
  obtain ⟨mh, hmh⟩ : ∃ m, m = u.hs.length := ⟨_, rfl⟩
  obtain ⟨mf, hmf⟩ : ∃ m, m = u.fs.length := ⟨_, rfl⟩
  rw [← hmg] at hga g1 ⊢
  rw [← hmh] at hha g2 ⊢
  rw [← hmf] at hfa g3 ⊢
  have hMG := hid hmg
  have hMH := hid hmh
  have hMF := hid hmf
  clear hg hh hf hgi hhi hfi ok wf hmg hmh hmf
  have hX0 := hid (SB1.new (Below.refl w.heap.size w) #[.slice ga mg gc, .slice ha mh hc, .slice fa mf fc] 26)
  have hU : Hid (UIn w false none u (.agg #[.slice ga mg gc, .slice ha mh hc, .slice fa mf fc])) := hid (by rw [hMG.out, hMH.out, hMF.out] at *; exact hV.out)
  have hSB : Hid (sumU u.fs ≤ 10000000000000000) := hid (by have h1 := sumU_le u.fs OK.out.fb; have h2 := hMF.out; omega)
  go_enter Tryz.func7, Tryz.ntmps7
  go_wp2_with fail
  go_loopw [2, 3] (fun z i wr => ∃ k : Nat, z = .int .i64 0 ∧ k ≤ mg ∧ i = .int .i64 k ∧ u.gs.all okGH = (u.gs.drop k).all okGH ∧ SB1 w w.heap.size #[.slice ga mg gc, .slice ha mh hc, .slice fa mf fc] 26 wr) (fun _ i _ => mg - (intOf i).toNat)
  case atStart => exact ⟨0, rfl, Nat.zero_le _, rfl, rfl, hX0.out⟩
  case round =>
    clear hX0
    obtain ⟨k, rfl, hk, rfl, hal, hX⟩ := hrel
    have hA := hid hal
    have hX1 := hid hX
    have hb := hid hX.below
    have p0 := hX1.out.box.cell 0
    have p1 := hX1.out.box.cell 1
    have p2 := hX1.out.box.cell 2
    simp at p0 p1 p2
    clear hal hX
    by_cases hlt : k < mg
    · have hlt' : k < u.gs.length := by have := hMG.out; omega
      obtain ⟨⟨t, y0, _⟩, y1, y2, y3, y4⟩ := hG.out k hlt'
      have hw1 := WF.out.g _ (List.getElem_mem hlt')
      have hat := hid (all_at okGH u.gs k hlt')
      have x0 := cell_on y0 hb.out
      have x1 := cell_on y1 hb.out
      have x2 := cell_on y2 hb.out
      have x3 := cell_on y3 hb.out
      have x4 := cell_on y4 hb.out
      have hka2 : ga = some ⟨gb, go, none⟩ := by rcases hga with q | q; (· omega); (· exact q)
      subst hka2
      generalize u.gs[k]'hlt' = a at *
      obtain ⟨at0, nm, ty, ln, wd⟩ := a
      simp only [] at x0 x1 x2 x3 x4 hw1
      have hW := hid hw1
      have hY := hid (SB1.new hX1.out.below #[.int .i64 t, .string nm, .int .u8 ty, .int .u32 ln, .int .u32 wd] 43)
      have hXY := hid (fun (w2 : World) (h : Below (wr.alloc (.cells #[.int .i64 t, .string nm, .int .u8 ty, .int .u32 ln, .int .u32 wd] 43)).heap.size (wr.alloc (.cells #[.int .i64 t, .string nm, .int .u8 ty, .int .u32 ln, .int .u32 wd] 43)) w2) => hX1.out.on (((Below.refl wr.heap.size wr).alloc (Nat.le_refl _) (.cells #[.int .i64 t, .string nm, .int .u8 ty, .int .u32 ln, .int .u32 wd] 43)).trans (h.mono (by simp))))
      have hcc := hid (name16 nm (wr.alloc (.cells #[.int .i64 t, .string nm, .int .u8 ty, .int .u32 ln, .int .u32 wd] 43)) hW.out.1)
      clear hga hw1 y0 y1 y2 y3 y4
      go_wp2_with fail
      refine hcc.out.mono ?_
      rintro e w2 ⟨rfl, hb2⟩
      have hX2 := hid (hXY.out w2 hb2)
      have hY2 := hid (hY.out.on hb2)
      clear hb2 hcc hXY hY p0 p1 p2 x0 x1 x2 x3 x4
      have q2 := hY2.out.box.cell 2
      have q3 := hY2.out.box.cell 3
      have q4 := hY2.out.box.cell 4
      have ql := hY2.out.box.lt
      simp at q2 q3 q4
      cases h1 : nameOk nm
      · have hE : Hid (u.gs.all okGH = false) := hid (by rw [hA.out, hat.out]; simp only [okGH, okG, h1, Bool.false_and, Bool.true_and, Bool.and_false, Bool.not_true, Bool.not_false])
        go_wp2_with fail
        go_ret
        exact ⟨ret_int (chkU_no (fitsU_g hE.out)).symm, hX2.out.below⟩
      have hcc := hid (typeMay17 ty w2)
      go_wp2_with fail
      refine hcc.out.mono ?_
      rintro e w3 ⟨rfl, hw⟩
      subst w3
      clear hcc
      cases h2 : typeB ty
      · have hE : Hid (u.gs.all okGH = false) := hid (by rw [hA.out, hat.out]; simp only [okGH, okG, h1, h2, Bool.false_and, Bool.true_and, Bool.and_false, Bool.not_true, Bool.not_false])
        go_wp2_with fail
        go_ret
        exact ⟨ret_int (chkU_no (fitsU_g hE.out)).symm, hX2.out.below⟩
      have h1' := hid h1
      have h2' := hid h2
      clear h1 h2
      by_cases h3 : 4096 < ln
      · have q3x : decide (4096 < ln) = true := by simpa using h3
        have hE : Hid (u.gs.all okGH = false) := hid (by rw [hA.out, hat.out]; simp only [okGH, okG, h1'.out, h2'.out, q3x, Bool.false_and, Bool.true_and, Bool.not_true])
        clear q3x
        go_wp2_with fail
        go_ret
        exact ⟨ret_int (chkU_no (fitsU_g hE.out)).symm, hX2.out.below⟩
      have q3x := hid (show decide (4096 < ln) = false by simpa using h3)
      by_cases h4 : 0 < ln ∧ wd ≠ 0
      · have q4x : decide (0 < ln) = true := by simpa using h4.1
        have q5x : (wd != 0) = true := by simpa using h4.2
        have h5 := h4.1
        have hE : Hid (u.gs.all okGH = false) := hid (by rw [hA.out, hat.out]; simp only [okGH, okG, h1'.out, h2'.out, q3x.out, q4x, q5x, Bool.false_and, Bool.true_and, Bool.not_true, Bool.not_false])
        clear h4
        go_wp2_with fail
        go_ret
        exact ⟨ret_int (chkU_no (fitsU_g hE.out)).symm, hX2.out.below⟩
      have q4x : Hid ((decide (0 < ln) && wd != 0) = false) := hid (by
        cases hq : (decide (0 < ln) && wd != 0)
        · rfl
        · simp at hq; exact absurd hq h4)
      have hfin : Hid (okGH ⟨at0, nm, ty, ln, wd⟩ = !(ty == 2 && !finB wd)) := hid (by rw [← okG_ref (nm := nm) (ln := ln) h2'.out]; simp only [okGH, okG, h1'.out, h2'.out, q3x.out, q4x.out]; rfl)
      have hcf := hid (finite18 wd hW.out.2 w2)
      clear h1' h2' q3x
      by_cases h5 : 0 < ln
      · have h6 : wd = 0 := by
          by_cases q : wd = 0
          · exact q
          · exact absurd ⟨h5, q⟩ h4
        subst h6
        clear h4
        cases ht : ty == 2
        · have hE : Hid (u.gs.all okGH = (u.gs.drop (k + 1)).all okGH) := hid (by rw [hA.out, hat.out, hfin.out, ht]; rfl)
          go_wp2_with fail
          go_roundw
          case rel => exact ⟨k + 1, rfl, by omega, by go_num, hE.out, hX2.out⟩
          case measure => simp [intOf]; omega
        go_wp2_with fail
        refine hcf.out.mono ?_
        rintro e w3 ⟨rfl, hw⟩
        subst w3
        cases hf : finB 0
        · have hE : Hid (u.gs.all okGH = false) := hid (by rw [hA.out, hat.out, hfin.out, ht, hf]; rfl)
          go_wp2_with fail
          go_ret
          exact ⟨ret_int (chkU_no (fitsU_g hE.out)).symm, hX2.out.below⟩
        have hE : Hid (u.gs.all okGH = (u.gs.drop (k + 1)).all okGH) := hid (by rw [hA.out, hat.out, hfin.out, ht, hf]; rfl)
        go_wp2_with fail
        go_roundw
        case rel => exact ⟨k + 1, rfl, by omega, by go_num, hE.out, hX2.out⟩
        case measure => simp [intOf]; omega
      clear h4
      cases ht : ty == 2
      · have hE : Hid (u.gs.all okGH = (u.gs.drop (k + 1)).all okGH) := hid (by rw [hA.out, hat.out, hfin.out, ht]; rfl)
        go_wp2_with fail
        go_roundw
        case rel => exact ⟨k + 1, rfl, by omega, by go_num, hE.out, hX2.out⟩
        case measure => simp [intOf]; omega
      go_wp2_with fail
      refine hcf.out.mono ?_
      rintro e w3 ⟨rfl, hw⟩
      subst w3
      cases hf : finB wd
      · have hE : Hid (u.gs.all okGH = false) := hid (by rw [hA.out, hat.out, hfin.out, ht, hf]; rfl)
        go_wp2_with fail
        go_ret
        exact ⟨ret_int (chkU_no (fitsU_g hE.out)).symm, hX2.out.below⟩
      have hE : Hid (u.gs.all okGH = (u.gs.drop (k + 1)).all okGH) := hid (by rw [hA.out, hat.out, hfin.out, ht, hf]; rfl)
      go_wp2_with fail
      go_roundw
      case rel => exact ⟨k + 1, rfl, by omega, by go_num, hE.out, hX2.out⟩
      case measure => simp [intOf]; omega
    · have hkm : k = mg := by omega
      subst k
      have hEgs : Hid (u.gs.all okGH = true) := hid (by rw [hA.out]; have := hMG.out; rw [this]; exact all_end _ _)
      clear hlt hk hA hb
      go_wp2_with fail
      clear p0 p1 p2
      go_loopw [2, 5] (fun z i wr => ∃ k : Nat, z = .int .i64 0 ∧ k ≤ mh ∧ i = .int .i64 k ∧ u.hs.all okHo = (u.hs.drop k).all okHo ∧ SB1 w w.heap.size #[.slice ga mg gc, .slice ha mh hc, .slice fa mf fc] 26 wr) (fun _ i _ => mh - (intOf i).toNat)
      case atStart => exact ⟨0, rfl, Nat.zero_le _, rfl, rfl, hX1.out⟩
      case round =>
        clear hX1
        obtain ⟨k, rfl, hk, rfl, hal, hX⟩ := hrel
        have hA := hid hal
        have hX1 := hid hX
        have hb := hid hX.below
        have p0 := hX1.out.box.cell 0
        have p1 := hX1.out.box.cell 1
        have p2 := hX1.out.box.cell 2
        simp at p0 p1 p2
        clear hal hX
        by_cases hlt : k < mh
        · have hlt' : k < u.hs.length := by have := hMH.out; omega
          obtain ⟨⟨t, y0, _⟩, y1, ⟨pv, y2, hpv⟩, y3, y4⟩ := hH.out k hlt'
          have hw1 := WF.out.h _ (List.getElem_mem hlt')
          have hpl := OK.out.hp _ (List.getElem_mem hlt')
          have hat := hid (all_at okHo u.hs k hlt')
          have x0 := cell_on y0 hb.out
          have x1 := cell_on y1 hb.out
          have x2 := cell_on y2 hb.out
          have x3 := cell_on y3 hb.out
          have x4 := cell_on y4 hb.out
          have hka2 : ha = some ⟨hbk, ho, none⟩ := by rcases hha with q | q; (· omega); (· exact q)
          subst hka2
          generalize u.hs[k]'hlt' = a at *
          obtain ⟨at0, nm, ps, ty, nu⟩ := a
          obtain ⟨pa, pc, rfl⟩ := hpv.shape'
          simp only [] at x0 x1 x2 x3 x4 hw1 hpl
          have hW := hid hw1
          have hP := hid (And.intro hpv hpl)
          have hY := hid (SB1.new hX1.out.below #[.int .i64 t, .string nm, .slice pa ps.length pc, .int .u8 ty, .int .u32 nu] 36)
          have hXY := hid (fun (w2 : World) (h : Below (wr.alloc (.cells #[.int .i64 t, .string nm, .slice pa ps.length pc, .int .u8 ty, .int .u32 nu] 36)).heap.size (wr.alloc (.cells #[.int .i64 t, .string nm, .slice pa ps.length pc, .int .u8 ty, .int .u32 nu] 36)) w2) => hX1.out.on (((Below.refl wr.heap.size wr).alloc (Nat.le_refl _) (.cells #[.int .i64 t, .string nm, .slice pa ps.length pc, .int .u8 ty, .int .u32 nu] 36)).trans (h.mono (by simp))))
          have hcc := hid (name16 nm (wr.alloc (.cells #[.int .i64 t, .string nm, .slice pa ps.length pc, .int .u8 ty, .int .u32 nu] 36)) hW.out.1)
          clear hha hw1 y0 y1 y2 y3 y4 hpv hpl
          go_wp2_with fail
          refine hcc.out.mono ?_
          rintro e w2 ⟨rfl, hb2⟩
          have hX2 := hid (hXY.out w2 hb2)
          have hY2 := hid (hY.out.on hb2)
          clear hb2 hcc hXY hY p0 p1 p2 x0 x1 x2 x3 x4
          have q2 := hY2.out.box.cell 2
          have q3 := hY2.out.box.cell 3
          have q4 := hY2.out.box.cell 4
          have ql := hY2.out.box.lt
          simp at q2 q3 q4
          cases h1 : nameOk nm
          · have hE : Hid (u.hs.all okHo = false) := hid (by rw [hA.out, hat.out]; simp only [okHo, h1, Bool.false_and, Bool.true_and, Bool.and_false, Bool.not_true, Bool.not_false])
            go_wp2_with fail
            go_ret
            exact ⟨ret_int (chkU_no (fitsU_h hE.out)).symm, hX2.out.below⟩
          have hcc := hid (typeMay17 ty w2)
          go_wp2_with fail
          refine hcc.out.mono ?_
          rintro e w3 ⟨rfl, hw⟩
          subst w3
          clear hcc
          cases h2 : typeB ty
          · have hE : Hid (u.hs.all okHo = false) := hid (by rw [hA.out, hat.out]; simp only [okHo, h1, h2, Bool.false_and, Bool.true_and, Bool.and_false, Bool.not_true, Bool.not_false])
            go_wp2_with fail
            go_ret
            exact ⟨ret_int (chkU_no (fitsU_h hE.out)).symm, hX2.out.below⟩
          have hcc := hid (params19 ps (.slice pa ps.length pc) w2 hP.out.2 hW.out.2 (hP.out.1.mono hX2.out.below (fun _ _ _ h => h.mono hX2.out.below)))
          go_wp2_with fail
          refine hcc.out.mono ?_
          rintro e w3 ⟨rfl, hb3⟩
          have hX3 := hid (hX2.out.on hb3)
          have hY3 := hid (hY2.out.on hb3)
          clear hb3 hcc ql q2 q3 q4 hX2 hY2
          have q4 := hY3.out.box.cell 4
          simp at q4
          cases h3 : okP ps
          · have hE : Hid (u.hs.all okHo = false) := hid (by rw [hA.out, hat.out]; simp only [okHo, h1, h2, h3, Bool.false_and, Bool.true_and, Bool.and_false, Bool.not_true, Bool.not_false])
            go_wp2_with fail
            go_ret
            exact ⟨ret_int (chkU_no (fitsU_h hE.out)).symm, hX3.out.below⟩
          by_cases h4 : 2147483647 < nu
          · have h5 : decide (2147483647 < nu) = true := by simpa using h4
            have hE : Hid (u.hs.all okHo = false) := hid (by rw [hA.out, hat.out]; simp only [okHo, h1, h2, h3, h5, Bool.false_and, Bool.true_and, Bool.and_false, Bool.not_true, Bool.not_false])
            clear h5
            go_wp2_with fail
            go_ret
            exact ⟨ret_int (chkU_no (fitsU_h hE.out)).symm, hX3.out.below⟩
          have h5 : decide (2147483647 < nu) = false := by simpa using h4
          have hE : Hid (u.hs.all okHo = (u.hs.drop (k + 1)).all okHo) := hid (by rw [hA.out, hat.out]; simp only [okHo, h1, h2, h3, h5, Bool.true_and, Bool.not_false])
          clear h5
          go_wp2_with fail
          go_roundw
          case rel => exact ⟨k + 1, rfl, by omega, by go_num, hE.out, hX3.out⟩
          case measure => simp [intOf]; omega
        · have hkm : k = mh := by omega
          subst k
          have hEhs : Hid (u.hs.all okHo = true) := hid (by rw [hA.out]; have := hMH.out; rw [this]; exact all_end _ _)
          clear hlt hk hA hb
          go_wp2_with fail
          clear p0 p1 p2
          go_loopw [2, 7] (fun z i wr => ∃ k : Nat, z = .int .i64 0 ∧ k ≤ mf ∧ i = .int .i64 k ∧ u.fs.all okFu = (u.fs.drop k).all okFu ∧ SB1 w w.heap.size #[.slice ga mg gc, .slice ha mh hc, .slice fa mf fc] 26 wr) (fun _ i _ => mf - (intOf i).toNat)
          case atStart => exact ⟨0, rfl, Nat.zero_le _, rfl, rfl, hX1.out⟩
          case round =>
            clear hX1
            obtain ⟨k, rfl, hk, rfl, hal, hX⟩ := hrel
            have hA := hid hal
            have hX1 := hid hX
            have hb := hid hX.below
            have p0 := hX1.out.box.cell 0
            have p1 := hX1.out.box.cell 1
            have p2 := hX1.out.box.cell 2
            simp at p0 p1 p2
            clear hal hX
            by_cases hlt : k < mf
            · have hlt' : k < u.fs.length := by have := hMF.out; omega
              obtain ⟨⟨t, y0, _⟩, y1, ⟨pv, y2, hpv⟩, y3, y4, ⟨bv, y5, hbv⟩⟩ := hF.out k hlt'
              have hw1 := WF.out.f _ (List.getElem_mem hlt')
              have hpl := OK.out.fp _ (List.getElem_mem hlt')
              have hbl := OK.out.fb _ (List.getElem_mem hlt')
              have hat := hid (all_at okFu u.fs k hlt')
              have x0 := cell_on y0 hb.out
              have x1 := cell_on y1 hb.out
              have x2 := cell_on y2 hb.out
              have x3 := cell_on y3 hb.out
              have x4 := cell_on y4 hb.out
              have x5 := cell_on y5 hb.out
              have hka2 : fa = some ⟨fb, fo, none⟩ := by rcases hfa with q | q; (· omega); (· exact q)
              subst hka2
              generalize u.fs[k]'hlt' = a at *
              obtain ⟨at0, nm, ps, ty, op, bd⟩ := a
              obtain ⟨pa, pc, rfl⟩ := hpv.shape'
              obtain ⟨ba, bc, rfl⟩ := hbv.shape'
              simp only [] at x0 x1 x2 x3 x4 x5 hw1 hpl hbl
              have hW := hid hw1
              have hP := hid (And.intro hpv hpl)
              have hBD := hid (And.intro hbv hbl)
              have hY := hid (SB1.new hX1.out.below #[.int .i64 t, .string nm, .slice pa ps.length pc, .int .u8 ty, .bool op, .slice ba bd.len bc] 39)
              have hXY := hid (fun (w2 : World) (h : Below (wr.alloc (.cells #[.int .i64 t, .string nm, .slice pa ps.length pc, .int .u8 ty, .bool op, .slice ba bd.len bc] 39)).heap.size (wr.alloc (.cells #[.int .i64 t, .string nm, .slice pa ps.length pc, .int .u8 ty, .bool op, .slice ba bd.len bc] 39)) w2) => hX1.out.on (((Below.refl wr.heap.size wr).alloc (Nat.le_refl _) (.cells #[.int .i64 t, .string nm, .slice pa ps.length pc, .int .u8 ty, .bool op, .slice ba bd.len bc] 39)).trans (h.mono (by simp))))
              have hcc := hid (name16 nm (wr.alloc (.cells #[.int .i64 t, .string nm, .slice pa ps.length pc, .int .u8 ty, .bool op, .slice ba bd.len bc] 39)) hW.out.1)
              clear hfa hw1 y0 y1 y2 y3 y4 y5 hpv hpl hbv hbl
              go_wp2_with fail
              refine hcc.out.mono ?_
              rintro e w2 ⟨rfl, hb2⟩
              have hX2 := hid (hXY.out w2 hb2)
              have hY2 := hid (hY.out.on hb2)
              clear hb2 hcc hXY hY p0 p1 p2 x0 x1 x2 x3 x4 x5
              have q2 := hY2.out.box.cell 2
              have q3 := hY2.out.box.cell 3
              have q4 := hY2.out.box.cell 4
              have q5 := hY2.out.box.cell 5
              have ql := hY2.out.box.lt
              simp at q2 q3 q4 q5
              cases h1 : nameOk nm
              · have hE : Hid (u.fs.all okFu = false) := hid (by rw [hA.out, hat.out]; simp only [okFu, h1, Bool.false_and, Bool.true_and, Bool.and_false, Bool.not_true, Bool.not_false])
                go_wp2_with fail
                go_ret
                exact ⟨ret_int (chkU_no (fitsU_f hE.out)).symm, hX2.out.below⟩
              have hcc := hid (typeMay17 ty w2)
              go_wp2_with fail
              refine hcc.out.mono ?_
              rintro e w3 ⟨rfl, hw⟩
              subst w3
              clear hcc
              cases h2 : typeB ty
              · have hE : Hid (u.fs.all okFu = false) := hid (by rw [hA.out, hat.out]; simp only [okFu, h1, h2, Bool.false_and, Bool.true_and, Bool.and_false, Bool.not_true, Bool.not_false])
                go_wp2_with fail
                go_ret
                exact ⟨ret_int (chkU_no (fitsU_f hE.out)).symm, hX2.out.below⟩
              have hcc := hid (params19 ps (.slice pa ps.length pc) w2 hP.out.2 hW.out.2.1 (hP.out.1.mono hX2.out.below (fun _ _ _ h => h.mono hX2.out.below)))
              go_wp2_with fail
              refine hcc.out.mono ?_
              rintro e w3 ⟨rfl, hb3⟩
              have hX3 := hid (hX2.out.on hb3)
              have hY3 := hid (hY2.out.on hb3)
              clear hb3 hcc ql q2 q3 q4 q5 hX2 hY2
              have q5 := hY3.out.box.cell 5
              simp at q5
              cases h3 : okP ps
              · have hE : Hid (u.fs.all okFu = false) := hid (by rw [hA.out, hat.out]; simp only [okFu, h1, h2, h3, Bool.false_and, Bool.true_and, Bool.and_false, Bool.not_true, Bool.not_false])
                go_wp2_with fail
                go_ret
                exact ⟨ret_int (chkU_no (fitsU_f hE.out)).symm, hX3.out.below⟩
              have hcc := hid (may20 _ bd (.slice ba bd.len bc) w3 (Nat.lt_succ_self _) hBD.out.2 hW.out.2.2 (hBD.out.1.mono hX3.out.below))
              go_wp2_with fail
              refine hcc.out.mono ?_
              rintro e w4 ⟨rfl, hb4⟩
              have hX4 := hid (hX3.out.on hb4)
              clear hb4 hcc q5 hX3 hY3
              cases h4 : okS bd
              · have hE : Hid (u.fs.all okFu = false) := hid (by rw [hA.out, hat.out]; simp only [okFu, h1, h2, h3, h4, Bool.false_and, Bool.true_and, Bool.and_false, Bool.not_true, Bool.not_false])
                go_wp2_with fail
                go_ret
                exact ⟨ret_int (chkU_no (fitsU_f hE.out)).symm, hX4.out.below⟩
              have hE : Hid (u.fs.all okFu = (u.fs.drop (k + 1)).all okFu) := hid (by rw [hA.out, hat.out]; simp only [okFu, h1, h2, h3, h4, Bool.true_and, Bool.not_false])
              go_wp2_with fail
              go_roundw
              case rel => exact ⟨k + 1, rfl, by omega, by go_num, hE.out, hX4.out⟩
              case measure => simp [intOf]; omega
            · have hkm : k = mf := by omega
              subst k
              have hEfs : Hid (u.fs.all okFu = true) := hid (by rw [hA.out]; have := hMF.out; rw [this]; exact all_end _ _)
              clear hlt hk hA hb
              go_wp2_with fail
              clear p0 p1 p2
              have hFit := hid (fitsU_y hEgs.out hEhs.out hEfs.out)
              go_loopw [2, 9] (fun z i wr => ∃ k : Nat, z = .int .i64 0 ∧ k ≤ mf ∧ i = .int .i64 k ∧ u.fs.any deepB = (u.fs.drop k).any deepB ∧ SB1 w w.heap.size #[.slice ga mg gc, .slice ha mh hc, .slice fa mf fc] 26 wr) (fun _ i _ => mf - (intOf i).toNat)
              case atStart => exact ⟨0, rfl, Nat.zero_le _, rfl, rfl, hX1.out⟩
              case round =>
                clear hX1
                obtain ⟨k, rfl, hk, rfl, hal, hX⟩ := hrel
                have hA := hid hal
                have hX1 := hid hX
                have hb := hid hX.below
                have p0 := hX.box.cell 0
                have p1 := hX.box.cell 1
                have p2 := hX.box.cell 2
                simp at p0 p1 p2
                clear hal hX
                by_cases hlt : k < mf
                · have hlt' : k < u.fs.length := by have := hMF.out; omega
                  obtain ⟨-, -, -, -, -, ⟨bv, y5, hbv⟩⟩ := hF.out k hlt'
                  have hbl := OK.out.fb _ (List.getElem_mem hlt')
                  have hat := hid (any_at deepB u.fs k hlt')
                  have x5 := cell_on y5 hb.out
                  have hka2 : fa = some ⟨fb, fo, none⟩ := by rcases hfa with q | q; (· omega); (· exact q)
                  subst hka2
                  generalize u.fs[k]'hlt' = a at *
                  obtain ⟨at0, nm, ps, ty, op, bd⟩ := a
                  obtain ⟨ba, bc, rfl⟩ := hbv.shape'
                  simp only [] at x5 hbl
                  have hcd := hid (height21 _ bd (.slice ba bd.len bc) wr (Nat.lt_succ_self _) hbl (hbv.mono hb.out))
                  have hd := htS_le bd
                  have hdb : htS bd ≤ 100000000 := by omega
                  clear hfa y5 hbv hd
                  go_wp2_with fail
                  refine hcd.out.mono ?_
                  rintro e w3 ⟨rfl, hb3⟩
                  have hX3 := hid (hX1.out.on hb3)
                  clear hb3 hcd x5 p0 p1 p2
                  by_cases hdeep : 64 < htS bd
                  · have hE : Hid (u.fs.any deepB = true) := hid (by rw [hA.out, hat.out]; have : deepB ⟨at0, nm, ps, ty, op, bd⟩ = true := (by simpa [deepB] using hdeep); rw [this]; rfl)
                    go_wp2_with fail
                    go_ret
                    exact ⟨ret_int (chkU_deep hFit.out hE.out).symm, hX3.out.below⟩
                  have hE : Hid (u.fs.any deepB = (u.fs.drop (k + 1)).any deepB) := hid (by rw [hA.out, hat.out]; have : deepB ⟨at0, nm, ps, ty, op, bd⟩ = false := (by simpa [deepB] using hdeep); rw [this]; rfl)
                  go_wp2_with fail
                  go_roundw
                  case rel => exact ⟨k + 1, rfl, by omega, by go_num, hE.out, hX3.out⟩
                  case measure => simp [intOf]; omega
                · have hkm : k = mf := by omega
                  subst k
                  have hE : Hid (u.fs.any deepB = false) := hid (by rw [hA.out]; have := hMF.out; rw [this]; exact any_end _ _)
                  have hcp := hid (parts22 u (.agg #[.slice ga mg gc, .slice ha mh hc, .slice fa mf fc]) wr OK.out (hU.out.mono hb.out))
                  go_wp2_with fail
                  refine hcp.out.mono ?_
                  rintro e w3 ⟨rfl, hb3⟩
                  have hX3 := hid (hX1.out.on hb3)
                  have hsb : sumU u.fs ≤ 10000000000000000 := by have := hSB.out; omega
                  clear hb3 hcp p0 p1 p2
                  by_cases hmany : 16384 < sumU u.fs
                  · go_wp2_with fail
                    go_ret
                    exact ⟨ret_int (chkU_many hFit.out hE.out hmany).symm, hX3.out.below⟩
                  · go_wp2_with fail
                    go_ret
                    exact ⟨ret_int (chkU_ok hFit.out hE.out hmany).symm, hX3.out.below⟩

end Go.Proofs.YtecpkadjnecbiaaGreatDoor
