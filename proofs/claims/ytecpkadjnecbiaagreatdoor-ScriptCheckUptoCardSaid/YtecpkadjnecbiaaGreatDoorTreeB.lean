/- Walks: the same expressions, of the law. -/
import Derived.Test.YtecpkadjnecbiaaGreatDoorTreeA
namespace Go.Proofs.YtecpkadjnecbiaaGreatDoor
open Go.RowKit
set_option linter.unusedVariables false
set_option linter.unusedSimpArgs false

set_option maxHeartbeats 1000000 in
set_option maxRecDepth 100000 in
theorem same68 (h h' : EH) (v v' : Value) (b : Bool) (w : World)
    (hk : Hid (∀ w1 : World, Below w.heap.size w w1 → Calls Tryz.prog 40 #[v, v'] w1 fun e w2 => e = .returned (.bool b) ∧ Below w1.heap.size w1 w2)) :
    Calls Tryz.prog 53 #[aggE h.at_ h v, aggE h'.at_ h' v'] w fun e w' => e = .returned (.bool (eqE true h h' && b)) ∧ Below w.heap.size w w' := by
  obtain ⟨a0, a1, a2, a3, a4, a5⟩ := h
  obtain ⟨b0, b1, b2, b3, b4, b5⟩ := h'
  go_enter Tryz.func53, Tryz.ntmps53
  go_wp2_with fail
  all_goals first
    | (go_ret
       exact ⟨ret_bool (by simp_all [eqE]), below2 _ _ _⟩)
    | (refine (hk.out _ (below2 _ _ _)).mono ?_
       rintro e w1 ⟨rfl, hb⟩
       have hB := hid (below2' _ _ _ _ hb)
       clear hb hk
       go_wp2_with fail
       go_ret
       exact ⟨ret_bool (by simp_all [eqE]), hB.out⟩)

set_option maxHeartbeats 1000000 in
set_option maxRecDepth 100000 in
theorem same61 : ∀ (n : Nat) (l l' : Exs) (v v' : Value) (w : World), l.sz < n → l.sz ≤ 100000000 → l'.sz ≤ 100000000 → SlE w true none l v → SlE w true none l' v' →
    Calls Tryz.prog 40 #[v, v'] w fun e w' => e = .returned (.bool (sameE true l l')) ∧ Below w.heap.size w w' := by
  intro n
  induction n with
  | zero => intro l l' v v' w hn; omega
  | succ n ih =>
    have IH := hid ih
    clear ih
    intro l l' v v' w hn hs hs' hv hv'
    obtain ⟨ka, b, off, c, rfl, hka, hin⟩ := hv
    obtain ⟨ka', b', off', c', rfl, hka', hin'⟩ := hv'
    have hl := l.len_le
    have hl' := l'.len_le
    by_cases hq : l.len = l'.len
    · obtain ⟨m, hm⟩ : ∃ m, m = l.len := ⟨_, rfl⟩
      rw [← hm] at hka hq hl ⊢
      rw [← hq] at hka' hl' ⊢
      have hQ := hid (And.intro hm hq)
      have hN := hid hn
      have hS := hid (And.intro hs hs')
      have hkb : m ≤ 100000000 := by omega
      have hI := hid (And.intro hin hin')
      clear hn hs hs' hin hin' hl hl' hq hm
      go_enter Tryz.func40, Tryz.ntmps40
      go_wp2_with fail
      go_loopw [4, 5] (fun z i wr => ∃ (k : Nat) (r r' : Exs), z = .bool false ∧ k + r.len = m ∧ r.len = r'.len ∧ i = .int .i64 k ∧ ExsIn wr true none r b off k ∧ ExsIn wr true none r' b' off' k ∧ r.sz ≤ l.sz ∧ r'.sz ≤ l'.sz ∧ sameE true l l' = sameE true r r' ∧ Below w.heap.size w wr) (fun _ i _ => m - (intOf i).toNat)
      case atStart => exact ⟨0, l, l', rfl, by have := hQ.out.1; omega, hQ.out.1.symm.trans hQ.out.2, rfl, hI.out.1, hI.out.2, Nat.le_refl _, Nat.le_refl _, rfl, Below.refl _ _⟩
      case round =>
        clear hI
        obtain ⟨k, r, r', rfl, hk, hrr, rfl, hr, hr', hz, hz', hsm, hb⟩ := hrel
        have hSm := hid hsm
        have hB := hid hb
        clear hsm hb
        cases r with
        | nil =>
          cases r' with
          | cons _ _ _ => simp [Exs.len] at hrr
          | nil =>
          simp only [Exs.len, Nat.add_zero] at hk
          subst hk
          clear hr hr' hz hz' hrr
          go_wp2_with fail
          go_ret
          exact ⟨ret_bool (by rw [hSm.out]; rfl), hB.out⟩
        | cons h kids rest =>
          cases r' with
          | nil => simp [Exs.len] at hrr
          | cons h' kids' rest' =>
          simp only [Exs.len, Exs.sz] at hk hrr hz hz'
          obtain ⟨⟨⟨t, x0, x0'⟩, x1, x2, x3, x4, x5⟩, ⟨u, x6, hu⟩, hR⟩ := hr.cons
          obtain ⟨⟨⟨t', y0, y0'⟩, y1, y2, y3, y4, y5⟩, ⟨u', y6, hu'⟩, hR'⟩ := hr'.cons
          have ex := x0' rfl
          have ey := y0' rfl
          subst ex ey
          clear x0' y0'
          have hkk : k < m := by omega
          have hka2 : ka = some ⟨b, off, none⟩ := by rcases hka with q | q; (· omega); (· exact q.1)
          have hka2' : ka' = some ⟨b', off', none⟩ := by rcases hka' with q | q; (· omega); (· exact q.1)
          subst hka2 hka2'
          clear hka hka' hr hr'
          have hKid : Hid (∀ w1 : World, Below wr.heap.size wr w1 → Calls Tryz.prog 40 #[u, u'] w1 fun e w2 => e = .returned (.bool (sameE true kids kids')) ∧ Below w1.heap.size w1 w2) := hid (fun w1 hw1 => IH.out kids kids' u u' w1 (by have := hN.out; omega) (by have := hS.out; omega) (by have := hS.out; omega) (hu.mono hw1) (hu'.mono hw1))
          have hRR := hid (And.intro hR hR')
          have hZZ := hid (And.intro hz hz')
          clear hu hu' hR hR' hz hz' hN hS IH
          go_wp2_with fail
          obtain ⟨c0, hc0⟩ : ∃ c0, c0 = (eqE true h h' && sameE true kids kids') := ⟨_, rfl⟩
          have hC := hid hc0
          have hM : Hid (sameE true l l' = (c0 && sameE true rest rest')) := hid (by rw [hSm.out, hC.out]; rfl)
          clear hc0 hSm
          go_region_law (go_simp; go_at_call 53; go_loud (refine (same68 h h' u u' (sameE true kids kids') _ (hid (fun w1 hw1 => hKid.out w1 (of_drew hw1)))).mono ?_); rintro e w2 ⟨rfl, hb2⟩; rw [← hC.out]; have hB2 := hid (of_drew hb2); clear hb2)
          all_goals
            clear hKid hC
            cases c0
            · go_wp2_with fail
              go_ret
              exact ⟨ret_bool (by rw [hM.out]; rfl), hB.out.trans (hB2.out.mono hB.out.size)⟩
            · go_wp2_with fail
              go_roundw
              case rel => exact ⟨k + 1, rest, rest', rfl, by omega, by omega, by go_num, hRR.out.1.mono hB2.out, hRR.out.2.mono hB2.out, by have := hZZ.out; omega, by have := hZZ.out; omega, by rw [hM.out]; rfl, hB.out.trans (hB2.out.mono hB.out.size)⟩
              case measure => simp [intOf]; omega
    · have hbq : ((l.len : Int) != (l'.len : Int)) = true := by simp; omega
      have hf := hid (sameE_len true hq)
      clear hn hs hs' hin hin' hka hka' hq
      go_enter Tryz.func40, Tryz.ntmps40
      go_wp2_with fail
      go_ret
      exact ⟨ret_bool hf.out.symm, Below.refl _ _⟩
end Go.Proofs.YtecpkadjnecbiaaGreatDoor
