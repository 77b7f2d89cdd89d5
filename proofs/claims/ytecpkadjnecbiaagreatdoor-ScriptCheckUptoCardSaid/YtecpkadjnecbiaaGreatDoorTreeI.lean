/- Walks: the same units, of the law. -/
import Derived.Test.YtecpkadjnecbiaaGreatDoorTreeH
import Derived.RegionTactic
import Derived.ChangeAlike
namespace Go.Proofs.YtecpkadjnecbiaaGreatDoor
open Go.RowKit
set_option linter.unusedVariables false
set_option linter.unusedSimpArgs false

set_option maxHeartbeats 4000000 in
set_option maxRecDepth 100000 in
theorem unit27 (u u' : UT) (v v' : Value) (w : World) (ok : u.Ok) (ok' : u'.Ok) (hv : UIn w true none u v) (hv' : UIn w true none u' v') :
    Calls Tryz.prog 8 #[v, v'] w fun e w' => e = .returned (.bool (sameU true u u')) ∧ Below w.heap.size w w' := by
  obtain ⟨vg, vh, vf, rfl, ⟨ga, gb, go, gc, rfl, gz, gi⟩, ⟨ha, hbk, ho, hc, rfl, hz, hi⟩, ⟨fa, fb, fo, fc, rfl, fz, fi⟩⟩ := hv
  obtain ⟨vg', vh', vf', rfl, ⟨ga', gb', go', gc', rfl, gz', gi'⟩, ⟨ha', hbk', ho', hc', rfl, hz', hi'⟩, ⟨fa', fb', fo', fc', rfl, fz', fi'⟩⟩ := hv'
  have g1 := ok.g
  have h1 := ok.h
  have f1 := ok.f
  by_cases hq1 : u.gs.length = u'.gs.length
  rotate_left
  · have hbq : ((u.gs.length : Int) != (u'.gs.length : Int)) = true := by simp; omega
    have hf := hid (sameL_len (eqG true) hq1)
    clear gz gi hz hi fz fi gz' gi' hz' hi' fz' fi' ok ok' hq1
    go_enter Tryz.func8, Tryz.ntmps8
    go_wp2_with fail
    go_ret
    exact ⟨ret_bool (by simp [sameU, hf.out]), below2 _ _ _⟩
  by_cases hq2 : u.hs.length = u'.hs.length
  rotate_left
  · have hbq : ((u.hs.length : Int) != (u'.hs.length : Int)) = true := by simp; omega
    have hf := hid (sameL_len (eqH true) hq2)
    rw [hq1]
    clear gz gi hz hi fz fi gz' gi' hz' hi' fz' fi' ok ok' hq1 hq2
    go_enter Tryz.func8, Tryz.ntmps8
    go_wp2_with fail
    go_ret
    exact ⟨ret_bool (by simp [sameU, hf.out]), below2 _ _ _⟩
  by_cases hq3 : u.fs.length = u'.fs.length
  rotate_left
  · have hbq : ((u.fs.length : Int) != (u'.fs.length : Int)) = true := by simp; omega
    have hf := hid (sameL_len (eqF true) hq3)
    rw [hq1, hq2]
    clear gz gi hz hi fz fi gz' gi' hz' hi' fz' fi' ok ok' hq1 hq2 hq3
    go_enter Tryz.func8, Tryz.ntmps8
    go_wp2_with fail
    go_ret
    exact ⟨ret_bool (by simp [sameU, hf.out]), below2 _ _ _⟩
  obtain ⟨m1, hm1⟩ : ∃ m, m = u.gs.length := ⟨_, rfl⟩
  obtain ⟨m2, hm2⟩ : ∃ m, m = u.hs.length := ⟨_, rfl⟩
  obtain ⟨m3, hm3⟩ : ∃ m, m = u.fs.length := ⟨_, rfl⟩
  rw [← hm1] at gz hq1 g1 ⊢
  rw [← hm2] at hz hq2 h1 ⊢
  rw [← hm3] at fz hq3 f1 ⊢
  rw [← hq1] at gz' ⊢
  rw [← hq2] at hz' ⊢
  rw [← hq3] at fz' ⊢
  have Q1 := hid (And.intro hm1 hq1)
  have Q2 := hid (And.intro hm2 hq2)
  have Q3 := hid (And.intro hm3 hq3)
  have G := hid (And.intro gi gi')
  have H := hid (And.intro hi hi')
  have FF := hid (And.intro fi fi')
  have GZ := hid (And.intro gz gz')
  have HZ := hid (And.intro hz hz')
  have FZ := hid (And.intro fz fz')
  have OK := hid (And.intro ok ok')
  clear gz gi hz hi fz fi gz' gi' hz' hi' fz' fi' ok ok' hq1 hq2 hq3 hm1 hm2 hm3
  go_enter Tryz.func8, Tryz.ntmps8
  go_wp2_with fail
  go_loopw [4, 5] (fun z i wr => ∃ (k : Nat), z = .bool false ∧ k ≤ m1 ∧ i = .int .i64 k ∧ sameL (eqG true) u.gs u'.gs = sameL (eqG true) (u.gs.drop k) (u'.gs.drop k) ∧ Box2 w wr #[.slice ga m1 gc, .slice ha m2 hc, .slice fa m3 fc] #[.slice ga' m1 gc', .slice ha' m2 hc', .slice fa' m3 fc']) (fun _ i _ => m1 - (intOf i).toNat)
  case atStart => exact ⟨0, rfl, Nat.zero_le _, rfl, rfl, Box2.start _ _ _ _ _⟩
  case round =>
    obtain ⟨k, rfl, hk, rfl, hsm, hb⟩ := hrel
    have z0 := hb.a 0
    have z1 := hb.a 1
    have z2 := hb.a 2
    have y0 := hb.b 0
    have y1 := hb.b 1
    have y2 := hb.b 2
    simp at z0 z1 z2 y0 y1 y2
    have hB := hid hb
    by_cases hlt : k < m1
    · have hSm := hid (hsm.trans (sameL_at (eqG true) u.gs u'.gs k (by have := Q1.out; omega) (by have := Q1.out; omega)))
      obtain ⟨⟨t, x0, x0'⟩, x1, x2, x3, x4⟩ := (G.out.1 k (by have := Q1.out; omega)).mono hb.below
      obtain ⟨⟨t', e0, e0'⟩, e1, e2, e3, e4⟩ := (G.out.2 k (by have := Q1.out; omega)).mono hb.below
      have hka2 : ga = some ⟨gb, go, none⟩ := by rcases GZ.out.1 with q | q; (· omega); (· exact q.1)
      have hka2' : ga' = some ⟨gb', go', none⟩ := by rcases GZ.out.2 with q | q; (· omega); (· exact q.1)
      subst hka2 hka2'
      clear hb hsm
      generalize u.gs[k]'(by have := Q1.out; omega) = a at *
      generalize u'.gs[k]'(by have := Q1.out; omega) = a' at *
      obtain ⟨p0, p1, p2, p3, p4⟩ := a
      obtain ⟨q0, q1, q2, q3, q4⟩ := a'
      simp only [] at x0 x1 x2 x3 x4 e0 e1 e2 e3 e4
      have ex : p0 = t := (x0' rfl).symm
      have ey : q0 = t' := (e0' rfl).symm
      clear x0' e0'
      subst ex ey
      obtain ⟨c0, hc0⟩ : ∃ c0, c0 = (p0 == q0 && (p1.toList == q1.toList && p2 == q2 && p3 == q3 && p4 == q4)) := ⟨_, rfl⟩
      have hnq := fun W : World => run_neq73 W p1 q1 p0 p2 p3 p4 q0 q2 q3 q4
      rw [← hc0] at hnq
      have hgd := gd73
      have hM : Hid (sameL (eqG true) u.gs u'.gs = (c0 && sameL (eqG true) (u.gs.drop (k + 1)) (u'.gs.drop (k + 1)))) := hid (by rw [hSm.out, hc0]; simp [eqG])
      clear hc0 hSm
      go_wp2_with fail
      go_region
      all_goals
        clear hnq hgd
        cases c0
        · go_wp2_with fail
          go_ret
          exact ⟨ret_bool (by simp [sameU, hM.out]), hB.out.drew.below⟩
        · go_wp2_with fail
          go_roundw
          case rel => exact ⟨k + 1, rfl, by omega, by go_num, by rw [hM.out]; rfl, hB.out.drew⟩
          case measure => simp [intOf]; omega
    · obtain rfl : k = m1 := by omega
      have hG := hid (hsm.trans (sameL_end (eqG true) u.gs u'.gs k (by have := Q1.out; omega) (by have := Q1.out; omega)))
      clear hsm hb G GZ Q1
      go_wp2_with fail
      clear z0 z1 z2 y0 y1 y2
      go_loopw [4, 6] (fun z i wr => ∃ (j : Nat), z = .bool false ∧ j ≤ m2 ∧ i = .int .i64 j ∧ sameU true u u' = (sameL (eqH true) (u.hs.drop j) (u'.hs.drop j) && sameL (eqF true) u.fs u'.fs) ∧ Box2 w wr #[.slice ga k gc, .slice ha m2 hc, .slice fa m3 fc] #[.slice ga' k gc', .slice ha' m2 hc', .slice fa' m3 fc']) (fun _ i _ => m2 - (intOf i).toNat)
      case atStart => exact ⟨0, rfl, Nat.zero_le _, rfl, by simp only [sameU, hG.out, List.drop_zero, Bool.true_and], hB.out⟩
      case round =>
        clear hB
        obtain ⟨j, rfl, hj, rfl, hsm, hb⟩ := hrel
        have z0 := hb.a 0
        have z1 := hb.a 1
        have z2 := hb.a 2
        have y0 := hb.b 0
        have y1 := hb.b 1
        have y2 := hb.b 2
        simp at z0 z1 z2 y0 y1 y2
        have hB := hid hb
        by_cases hlt : j < m2
        · have hSm := hid (hsm.trans (by rw [sameL_at (eqH true) u.hs u'.hs j (by have := Q2.out; omega) (by have := Q2.out; omega)]))
          obtain ⟨⟨t, x0, x0'⟩, x1, ⟨pv, x2, hpv⟩, x3, x4⟩ := (H.out.1 j (by have := Q2.out; omega)).mono hb.below
          obtain ⟨⟨t', e0, e0'⟩, e1, ⟨pv', e2, hpv'⟩, e3, e4⟩ := (H.out.2 j (by have := Q2.out; omega)).mono hb.below
          have hka2 : ha = some ⟨hbk, ho, none⟩ := by rcases HZ.out.1 with q | q; (· omega); (· exact q.1)
          have hka2' : ha' = some ⟨hbk', ho', none⟩ := by rcases HZ.out.2 with q | q; (· omega); (· exact q.1)
          have hmem : u.hs[j]'(by have := Q2.out; omega) ∈ u.hs := List.getElem_mem _
          subst hka2 hka2'
          clear hb hsm
          generalize u.hs[j]'(by have := Q2.out; omega) = a at *
          generalize u'.hs[j]'(by have := Q2.out; omega) = a' at *
          obtain ⟨p0, p1, p2, p3, p4⟩ := a
          obtain ⟨q0, q1, q2, q3, q4⟩ := a'
          simp only [] at x0 x1 x2 x3 x4 e0 e1 e2 e3 e4 hpv hpv'
          have ex : p0 = t := (x0' rfl).symm
          have ey : q0 = t' := (e0' rfl).symm
          clear x0' e0'
          subst ex ey
          obtain ⟨b1, eb1⟩ : ∃ b1, b1 = sameL eqP p2 q2 := ⟨_, rfl⟩
          have hM : Hid (sameU true u u' = (((p0 == q0 && p1.toList == q1.toList && p3 == q3 && p4 == q4) && b1) && sameL (eqH true) (u.hs.drop (j + 1)) (u'.hs.drop (j + 1)) && sameL (eqF true) u.fs u'.fs)) := hid (by rw [hSm.out, eb1]; simp [eqH])
          have hC : Hid (∀ w1 : World, Below wr.heap.size wr w1 → Calls Tryz.prog 23 #[pv, pv'] w1 fun e w2 => e = .returned (.bool b1) ∧ Below w1.heap.size w1 w2) := hid (fun w1 hw1 => by rw [eb1]; exact params49 p2 q2 _ _ w1 (by have := OK.out.1.hp _ hmem; omega) (hpv.plain.mono hw1) (hpv'.plain.mono hw1))
          have hbl1 := World.block_lt_of_cell? wr _ x1
          have hbl2 := World.block_lt_of_cell? wr _ e1
          have hbl3 := World.block_lt_of_cell? wr _ z0
          have hbl4 := World.block_lt_of_cell? wr _ y0
          simp only [] at hbl1 hbl2 hbl3 hbl4
          obtain ⟨pva, pvc, rfl⟩ := hpv.shape
          obtain ⟨pva', pvc', rfl⟩ := hpv'.shape
          clear hpv hpv' eb1 hSm hmem
          go_wp2_with fail
          all_goals first
            | (go_ret
               exact ⟨ret_bool (by rw [hM.out]; simp_all), (hB.out.step (below2 _ _ _)).below⟩)
            | (refine (hC.out _ (below2 _ _ _)).mono ?_
               rintro e w2 ⟨rfl, hb2⟩
               have hB2 := hid (hB.out.step (below2' _ _ _ _ hb2))
               clear hb2 hC
               cases b1
               · go_wp2_with fail
                 go_ret
                 exact ⟨ret_bool (by rw [hM.out]; simp), hB2.out.below⟩
               · have hM2 : Hid (sameU true u u' = (sameL (eqH true) (u.hs.drop (j + 1)) (u'.hs.drop (j + 1)) && sameL (eqF true) u.fs u'.fs)) := hid (by rw [hM.out]; simp_all)
                 go_wp2_with fail
                 go_roundw
                 case rel => exact ⟨j + 1, rfl, by omega, by go_num, hM2.out, hB2.out⟩
                 case measure => simp [intOf]; omega)
        · obtain rfl : j = m2 := by omega
          have hH := hid (hsm.trans (by rw [sameL_end (eqH true) u.hs u'.hs j (by have := Q2.out; omega) (by have := Q2.out; omega), Bool.true_and]))
          clear hsm hb H HZ Q2
          go_wp2_with fail
          clear z0 z1 z2 y0 y1 y2
          go_loopw [4, 9] (fun z i wr => ∃ (x : Nat), z = .bool false ∧ x ≤ m3 ∧ i = .int .i64 x ∧ sameU true u u' = sameL (eqF true) (u.fs.drop x) (u'.fs.drop x) ∧ Box2 w wr #[.slice ga k gc, .slice ha j hc, .slice fa m3 fc] #[.slice ga' k gc', .slice ha' j hc', .slice fa' m3 fc']) (fun _ i _ => m3 - (intOf i).toNat)
          case atStart => exact ⟨0, rfl, Nat.zero_le _, rfl, hH.out, hB.out⟩
          case round =>
            clear hB
            obtain ⟨i, rfl, hi, rfl, hsm, hb⟩ := hrel
            have z0 := hb.a 0
            have z1 := hb.a 1
            have z2 := hb.a 2
            have y0 := hb.b 0
            have y1 := hb.b 1
            have y2 := hb.b 2
            simp at z0 z1 z2 y0 y1 y2
            have hB := hid hb
            by_cases hlt : i < m3
            · have hSm := hid (hsm.trans (sameL_at (eqF true) u.fs u'.fs i (by have := Q3.out; omega) (by have := Q3.out; omega)))
              obtain ⟨⟨t, x0, x0'⟩, x1, ⟨pv, x2, hpv⟩, x3, x4, ⟨sv, x5, hsv⟩⟩ := (FF.out.1 i (by have := Q3.out; omega)).mono hb.below
              obtain ⟨⟨t', e0, e0'⟩, e1, ⟨pv', e2, hpv'⟩, e3, e4, ⟨sv', e5, hsv'⟩⟩ := (FF.out.2 i (by have := Q3.out; omega)).mono hb.below
              have hka2 : fa = some ⟨fb, fo, none⟩ := by rcases FZ.out.1 with q | q; (· omega); (· exact q.1)
              have hka2' : fa' = some ⟨fb', fo', none⟩ := by rcases FZ.out.2 with q | q; (· omega); (· exact q.1)
              have hmem : u.fs[i]'(by have := Q3.out; omega) ∈ u.fs := List.getElem_mem _
              have hmem' : u'.fs[i]'(by have := Q3.out; omega) ∈ u'.fs := List.getElem_mem _
              subst hka2 hka2'
              clear hb hsm
              generalize u.fs[i]'(by have := Q3.out; omega) = a at *
              generalize u'.fs[i]'(by have := Q3.out; omega) = a' at *
              obtain ⟨p0, p1, p2, p3, p4, p5⟩ := a
              obtain ⟨q0, q1, q2, q3, q4, q5⟩ := a'
              simp only [] at x0 x1 x2 x3 x4 e0 e1 e2 e3 e4 hpv hpv' hsv hsv'
              have ex : p0 = t := (x0' rfl).symm
              have ey : q0 = t' := (e0' rfl).symm
              clear x0' e0'
              subst ex ey
              obtain ⟨b1, eb1⟩ : ∃ b1, b1 = sameL eqP p2 q2 := ⟨_, rfl⟩
              obtain ⟨b2, eb2⟩ : ∃ b2, b2 = sameS true p5 q5 := ⟨_, rfl⟩
              have hM : Hid (sameU true u u' = (((p0 == q0 && p1.toList == q1.toList && p3 == q3 && p4 == q4) && b1 && b2) && sameL (eqF true) (u.fs.drop (i + 1)) (u'.fs.drop (i + 1)))) := hid (by rw [hSm.out, eb1, eb2]; simp [eqF])
              have hC : Hid (∀ w1 : World, Below wr.heap.size wr w1 → Calls Tryz.prog 23 #[pv, pv'] w1 fun e w2 => e = .returned (.bool b1) ∧ Below w1.heap.size w1 w2) := hid (fun w1 hw1 => by rw [eb1]; exact params49 p2 q2 _ _ w1 (by have := OK.out.1.fp _ hmem; omega) (hpv.plain.mono hw1) (hpv'.plain.mono hw1))
              have hD : Hid (∀ w1 : World, Below wr.heap.size wr w1 → Calls Tryz.prog 24 #[sv, sv'] w1 fun e w2 => e = .returned (.bool b2) ∧ Below w1.heap.size w1 w2) := hid (fun w1 hw1 => by rw [eb2]; exact same50 _ p5 q5 _ _ w1 (Nat.lt_succ_self _) (by have := OK.out.1.fb _ hmem; omega) (by have := OK.out.2.fb _ hmem'; omega) (hsv.mono hw1) (hsv'.mono hw1))
              have hbl1 := World.block_lt_of_cell? wr _ x1
              have hbl2 := World.block_lt_of_cell? wr _ e1
              have hbl3 := World.block_lt_of_cell? wr _ z0
              have hbl4 := World.block_lt_of_cell? wr _ y0
              simp only [] at hbl1 hbl2 hbl3 hbl4
              obtain ⟨pva, pvc, rfl⟩ := hpv.shape
              obtain ⟨pva', pvc', rfl⟩ := hpv'.shape
              obtain ⟨sa, sn, sc, rfl⟩ := hsv.shape
              obtain ⟨sa', sn', sc', rfl⟩ := hsv'.shape
              clear hpv hpv' hsv hsv' eb1 eb2 hSm hmem hmem'
              go_wp2_with fail
              all_goals first
                | (go_ret
                   exact ⟨ret_bool (by rw [hM.out]; simp_all), (hB.out.step (below2 _ _ _)).below⟩)
                | (refine (hC.out _ (below2 _ _ _)).mono ?_
                   rintro e w2 ⟨rfl, hb2⟩
                   have q5 : w2.cell? ⟨wr.heap.size, 5, none⟩ = some (.slice sa sn sc) := (box_on hb2).1 5
                   have q5' : w2.cell? ⟨wr.heap.size + 1, 5, none⟩ = some (.slice sa' sn' sc') := (box_on hb2).2 5
                   have hb2b := below2' _ _ _ _ hb2
                   have hB2 := hid (And.intro hb2b (hB.out.step hb2b))
                   clear hb2 hb2b hC x0 x1 x2 x3 x4 x5 e0 e1 e2 e3 e4 e5
                   cases b1
                   · go_wp2_with fail
                     go_ret
                     exact ⟨ret_bool (by rw [hM.out]; simp), hB2.out.2.below⟩
                   · go_wp2_with fail
                     refine (hD.out _ hB2.out.1).mono ?_
                     rintro e w3 ⟨rfl, hb3⟩
                     have hB3 := hid (hB2.out.2.step hb3)
                     clear hb3 hD q5 q5'
                     cases b2
                     · go_wp2_with fail
                       go_ret
                       exact ⟨ret_bool (by rw [hM.out]; simp), hB3.out.below⟩
                     · have hM2 : Hid (sameU true u u' = sameL (eqF true) (u.fs.drop (i + 1)) (u'.fs.drop (i + 1))) := hid (by rw [hM.out]; simp_all)
                       go_wp2_with fail
                       go_roundw
                       case rel => exact ⟨i + 1, rfl, by omega, by go_num, hM2.out, hB3.out⟩
                       case measure => simp [intOf]; omega)
            · obtain rfl : i = m3 := by omega
              have hE := hid (hsm.trans (sameL_end (eqF true) u.fs u'.fs i (by have := Q3.out; omega) (by have := Q3.out; omega)))
              clear hsm hb
              go_wp2_with fail
              go_ret
              exact ⟨ret_bool hE.out.symm, hB.out.below⟩
end Go.Proofs.YtecpkadjnecbiaaGreatDoor
