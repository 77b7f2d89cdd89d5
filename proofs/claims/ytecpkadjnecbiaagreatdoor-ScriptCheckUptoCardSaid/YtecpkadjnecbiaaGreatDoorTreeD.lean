/- Walks: the same statements, of the document and of the law. -/
import Derived.Test.YtecpkadjnecbiaaGreatDoorTreeB
import Derived.Test.YtecpkadjnecbiaaGreatDoorTreeC
namespace Go.Proofs.YtecpkadjnecbiaaGreatDoor
open Go.RowKit
set_option linter.unusedVariables false
set_option linter.unusedSimpArgs false

theorem SlS.shape {w : World} {p : Bool} {o : Option (Nat → Prop)} {l : Sts} {v : Value} (h : SlS w p o l v) : ∃ a n c, v = .slice a n c := by
  obtain ⟨ka, kb, koff, kcap, rfl, -⟩ := h
  exact ⟨_, _, _, rfl⟩
theorem box_on {wr w2 : World} {c1 c2 : Array Value} {t1 t2 : TypeId} (h : Below ((wr.alloc (.cells c1 t1)).alloc (.cells c2 t2)).heap.size ((wr.alloc (.cells c1 t1)).alloc (.cells c2 t2)) w2) :
    (∀ i, w2.cell? ⟨wr.heap.size, i, none⟩ = c1[i]?) ∧ (∀ i, w2.cell? ⟨wr.heap.size + 1, i, none⟩ = c2[i]?) := by
  refine ⟨fun i => ?_, fun i => ?_⟩
  · rw [h.cell (by simp; omega), World.cell?_alloc_past _ _ _ (by simp), World.cell?_alloc_at _ _ _ _ rfl]
  · rw [h.cell (by simp), World.cell?_alloc_at _ _ _ _ (by simp)]

set_option maxHeartbeats 4000000 in
set_option maxRecDepth 100000 in
set_option maxHeartbeats 4000000 in
set_option maxRecDepth 100000 in
theorem same50 : ∀ (n : Nat) (l l' : Sts) (v v' : Value) (w : World), l.sz < n → l.sz ≤ 100000000 → l'.sz ≤ 100000000 → SlS w true none l v → SlS w true none l' v' →
    Calls Tryz.prog 24 #[v, v'] w fun e w' => e = .returned (.bool (sameS true l l')) ∧ Below w.heap.size w w' := by
  intro n
  induction n with
  | zero => intro l l' v v' w hn; omega
  | succ n ih =>
    have IH := hid ih
    clear ih
    intro l l' v v' w hn hs hs' hv hv'
    obtain ⟨ka, b, off, c, rfl, hka, hin⟩ := hv
    obtain ⟨ka', b', off', c', rfl, hka', hin'⟩ := hv'
    have hl := l.len_le
    have hl' := l'.len_le
    by_cases hq : l.len = l'.len
    · obtain ⟨m, hm⟩ : ∃ m, m = l.len := ⟨_, rfl⟩
      rw [← hm] at hka hq hl ⊢
      rw [← hq] at hka' hl' ⊢
      have hQ := hid (And.intro hm hq)
      have hN := hid hn
      have hS := hid (And.intro hs hs')
      have hkb : m ≤ 100000000 := by omega
      have hI := hid (And.intro hin hin')
      clear hn hs hs' hin hin' hl hl' hq hm
      go_enter Tryz.func24, Tryz.ntmps24
      go_wp2_with fail
      go_loopw [4, 5] (fun z i wr => ∃ (k : Nat) (r r' : Sts), z = .bool false ∧ k + r.len = m ∧ r.len = r'.len ∧ i = .int .i64 k ∧ StsIn wr true none r b off k ∧ StsIn wr true none r' b' off' k ∧ r.sz ≤ l.sz ∧ r'.sz ≤ l'.sz ∧ sameS true l l' = sameS true r r' ∧ Below w.heap.size w wr) (fun _ i _ => m - (intOf i).toNat)
      case atStart => exact ⟨0, l, l', rfl, by have := hQ.out.1; omega, hQ.out.1.symm.trans hQ.out.2, rfl, hI.out.1, hI.out.2, Nat.le_refl _, Nat.le_refl _, rfl, Below.refl _ _⟩
      case round =>
        clear hI
        obtain ⟨k, r, r', rfl, hk, hrr, rfl, hr, hr', hz, hz', hsm, hb⟩ := hrel
        have hSm := hid hsm
        have hB := hid hb
        clear hsm hb
        cases r with
        | nil =>
          cases r' with
          | cons _ _ _ _ _ => simp [Sts.len] at hrr
          | nil =>
          simp only [Sts.len, Nat.add_zero] at hk
          subst hk
          clear hr hr' hz hz' hrr
          go_wp2_with fail
          go_ret
          exact ⟨ret_bool (by rw [hSm.out]; rfl), hB.out⟩
        | cons h x body els rest =>
          cases r' with
          | nil => simp [Sts.len] at hrr
          | cons h' x' body' els' rest' =>
          simp only [Sts.len, Sts.sz] at hk hrr hz hz'
          obtain ⟨⟨⟨t, x0, x0'⟩, x1, x2, x3, x4⟩, ⟨vx, x5, hvx⟩, ⟨vb, x6, hvb⟩, ⟨ve, x7, hve⟩, hR⟩ := hr.cons
          obtain ⟨⟨⟨t', y0, y0'⟩, y1, y2, y3, y4⟩, ⟨vx', y5, hvx'⟩, ⟨vb', y6, hvb'⟩, ⟨ve', y7, hve'⟩, hR'⟩ := hr'.cons
          obtain ⟨xa, xn, xc, rfl⟩ := hvx.shape
          obtain ⟨ba, bn, bc, rfl⟩ := hvb.shape
          obtain ⟨ea, en, ec, rfl⟩ := hve.shape
          obtain ⟨xa', xn', xc', rfl⟩ := hvx'.shape
          obtain ⟨ba', bn', bc', rfl⟩ := hvb'.shape
          obtain ⟨ea', en', ec', rfl⟩ := hve'.shape
          have hblt : b < wr.heap.size := World.block_lt_of_cell? wr _ x1
          have hblt' : b' < wr.heap.size := World.block_lt_of_cell? wr _ y1
          have ex := x0' rfl
          have ey := y0' rfl
          subst ex ey
          clear x0' y0'
          have hkk : k < m := by omega
          have hka2 : ka = some ⟨b, off, none⟩ := by rcases hka with q | q; (· omega); (· exact q.1)
          have hka2' : ka' = some ⟨b', off', none⟩ := by rcases hka' with q | q; (· omega); (· exact q.1)
          subst hka2 hka2'
          clear hka hka' hr hr'
          obtain ⟨bx, ex⟩ : ∃ bx, bx = sameE true x x' := ⟨_, rfl⟩
          obtain ⟨bb, eb⟩ : ∃ bb, bb = sameS true body body' := ⟨_, rfl⟩
          obtain ⟨be, ee⟩ : ∃ be, be = sameS true els els' := ⟨_, rfl⟩
          have hX : Hid (∀ w1 : World, Below wr.heap.size wr w1 → Calls Tryz.prog 40 #[.slice xa xn xc, .slice xa' xn' xc'] w1 fun e w2 => e = .returned (.bool bx) ∧ Below w1.heap.size w1 w2) := hid (fun w1 hw1 => by rw [ex]; exact same61 _ x x' _ _ w1 (Nat.lt_succ_self _) (by have := hS.out; omega) (by have := hS.out; omega) (hvx.mono hw1) (hvx'.mono hw1))
          have hBo : Hid (∀ w1 : World, Below wr.heap.size wr w1 → Calls Tryz.prog 24 #[.slice ba bn bc, .slice ba' bn' bc'] w1 fun e w2 => e = .returned (.bool bb) ∧ Below w1.heap.size w1 w2) := hid (fun w1 hw1 => by rw [eb]; exact IH.out body body' _ _ w1 (by have := hN.out; omega) (by have := hS.out; omega) (by have := hS.out; omega) (hvb.mono hw1) (hvb'.mono hw1))
          have hEl : Hid (∀ w1 : World, Below wr.heap.size wr w1 → Calls Tryz.prog 24 #[.slice ea en ec, .slice ea' en' ec'] w1 fun e w2 => e = .returned (.bool be) ∧ Below w1.heap.size w1 w2) := hid (fun w1 hw1 => by rw [ee]; exact IH.out els els' _ _ w1 (by have := hN.out; omega) (by have := hS.out; omega) (by have := hS.out; omega) (hve.mono hw1) (hve'.mono hw1))
          have hM : Hid (sameS true l l' = (eqS true h h' && bx && bb && be && sameS true rest rest')) := hid (by rw [hSm.out, ex, eb, ee]; rfl)
          have hRR := hid (And.intro hR hR')
          have hZZ := hid (And.intro hz hz')
          clear hvx hvx' hvb hvb' hve hve' hR hR' hz hz' hN hS IH ex eb ee hSm
          obtain ⟨a0, a1, a2, a3, a4⟩ := h
          obtain ⟨b0, b1, b2, b3, b4⟩ := h'
          simp only [] at x0 x1 x2 x3 x4 y0 y1 y2 y3 y4
          go_wp2_with fail
          all_goals first
            | (go_ret
               exact ⟨ret_bool (by rw [hM.out]; simp_all [eqS]), hB.out.trans ((below2 _ _ _).mono hB.out.size)⟩)
            | (refine (hX.out _ (below2 _ _ _)).mono ?_
               rintro e w2 ⟨rfl, hb2⟩
               have q6 : w2.cell? ⟨wr.heap.size, 6, none⟩ = some (.slice ba bn bc) := (box_on hb2).1 6
               have q7 : w2.cell? ⟨wr.heap.size, 7, none⟩ = some (.slice ea en ec) := (box_on hb2).1 7
               have q6' : w2.cell? ⟨wr.heap.size + 1, 6, none⟩ = some (.slice ba' bn' bc') := (box_on hb2).2 6
               have q7' : w2.cell? ⟨wr.heap.size + 1, 7, none⟩ = some (.slice ea' en' ec') := (box_on hb2).2 7
               have hB2 := hid (below2' _ _ _ _ hb2)
               clear hb2 hX x0 x1 x2 x3 x4 x5 x6 x7 y0 y1 y2 y3 y4 y5 y6 y7
               cases bx
               · go_wp2_with fail
                 go_ret
                 exact ⟨ret_bool (by rw [hM.out]; simp), hB.out.trans (hB2.out.mono hB.out.size)⟩
               · go_wp2_with fail
                 refine (hBo.out _ hB2.out).mono ?_
                 rintro e w3 ⟨rfl, hb3⟩
                 have p7 := cell_on q7 hb3
                 have p7' := cell_on q7' hb3
                 have hB3 := hid (hB2.out.trans (hb3.mono hB2.out.size))
                 clear hb3 hBo q6 q7 q6' q7' hB2
                 cases bb
                 · go_wp2_with fail
                   go_ret
                   exact ⟨ret_bool (by rw [hM.out]; simp), hB.out.trans (hB3.out.mono hB.out.size)⟩
                 · go_wp2_with fail
                   refine (hEl.out _ hB3.out).mono ?_
                   rintro e w4 ⟨rfl, hb4⟩
                   have hB4 := hid (hB3.out.trans (hb4.mono hB3.out.size))
                   clear hb4 hEl p7 p7' hB3
                   cases be
                   · go_wp2_with fail
                     go_ret
                     exact ⟨ret_bool (by rw [hM.out]; simp), hB.out.trans (hB4.out.mono hB.out.size)⟩
                   · have hM2 : Hid (sameS true l l' = sameS true rest rest') := hid (by rw [hM.out]; simp_all [eqS])
                     go_wp2_with fail
                     go_roundw
                     case rel => exact ⟨k + 1, rest, rest', rfl, by omega, by omega, by go_num, hRR.out.1.mono hB4.out, hRR.out.2.mono hB4.out, by have := hZZ.out; omega, by have := hZZ.out; omega, hM2.out, hB.out.trans (hB4.out.mono hB.out.size)⟩
                     case measure => simp [intOf]; omega)
    · have hbq : ((l.len : Int) != (l'.len : Int)) = true := by simp; omega
      have hf := hid (sameS_len true hq)
      clear hn hs hs' hin hin' hka hka' hq
      go_enter Tryz.func24, Tryz.ntmps24
      go_wp2_with fail
      go_ret
      exact ⟨ret_bool hf.out.symm, Below.refl _ _⟩

end Go.Proofs.YtecpkadjnecbiaaGreatDoor
