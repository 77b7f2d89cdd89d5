/- Walks: the same units, of the program. -/
import Derived.Test.YtmbdlhgclkbdiaaTreeH
import Derived.RegionTactic
import Derived.ChangeAlike
namespace Go.Proofs.Ytmbdlhgclkbdiaa
open Go.RowKit
set_option linter.unusedVariables false
set_option linter.unusedSimpArgs false

theorem on_below {w w' : World} {o : Option (Nat → Prop)} {l : List PW} {v : Value} (h : SlPz w o l v) (hb : Below w.heap.size w w') : SlPz w' o l v := SlR.mono h hb (fun _ _ _ h => h.mono hb)

set_option maxHeartbeats 1000000 in
set_option maxRecDepth 100000 in
theorem same42 (t t' : Int) (a a' : GH) (w : World) :
    Calls Try.prog 42 #[.agg #[.int .i64 t, .string a.name, .int .u8 a.type, .int .u32 a.len, .int .u32 a.word], .agg #[.int .i64 t', .string a'.name, .int .u8 a'.type, .int .u32 a'.len, .int .u32 a'.word]] w fun e w' => e = .returned (.bool (eqG false a a')) ∧ Below w.heap.size w w' := by
  obtain ⟨p0, p1, p2, p3, p4⟩ := a
  obtain ⟨q0, q1, q2, q3, q4⟩ := a'
  have hnq := fun W : World => run_eql73 W p1 q1 0 p2 p3 p4 0 q2 q3 q4
  have hgd := gd73
  go_enter Try.func42, Try.ntmps42
  go_wp2_with fail
  go_ret
  exact ⟨ret_bool (by simp [eqG]), below2 _ _ _⟩

set_option maxHeartbeats 1000000 in
set_option maxRecDepth 100000 in
theorem same44 (t t' : Int) (a a' : HH) (pv pv' : Value) (w : World) (ha : a.params.length ≤ 100000000) (hpv : SlPz w none a.params pv) (hpv' : SlPz w none a'.params pv') :
    Calls Try.prog 44 #[.agg #[.int .i64 t, .string a.name, pv, .int .u8 a.type, .int .u32 a.number], .agg #[.int .i64 t', .string a'.name, pv', .int .u8 a'.type, .int .u32 a'.number]] w fun e w' => e = .returned (.bool (eqH false a a')) ∧ Below w.heap.size w w' := by
  obtain ⟨p0, p1, p2, p3, p4⟩ := a
  obtain ⟨q0, q1, q2, q3, q4⟩ := a'
  obtain ⟨b1, eb1⟩ : ∃ b1, b1 = sameL eqP p2 q2 := ⟨_, rfl⟩
  simp only [] at ha hpv hpv'
  have hC : Hid (∀ w1 : World, Below w.heap.size w w1 → Calls Try.prog 45 #[pv, pv'] w1 fun e w2 => e = .returned (.bool b1) ∧ Below w1.heap.size w1 w2) := hid (fun w1 hw1 => by rw [eb1]; exact params45 p2 q2 _ _ w1 ha (on_below hpv hw1).plain (on_below hpv' hw1).plain)
  have hM : Hid (eqH false ⟨p0, p1, p2, p3, p4⟩ ⟨q0, q1, q2, q3, q4⟩ = ((p1.toList == q1.toList && p3 == q3 && p4 == q4) && b1)) := hid (by rw [eb1]; simp [eqH])
  obtain ⟨pva, pvc, rfl⟩ := hpv.shape
  obtain ⟨pva', pvc', rfl⟩ := hpv'.shape
  clear hpv hpv' eb1
  go_enter Try.func44, Try.ntmps44
  go_wp2_with fail
  all_goals first
    | (go_ret
       exact ⟨ret_bool (by rw [hM.out]; simp_all), below2 _ _ _⟩)
    | (refine (hC.out _ (below2 _ _ _)).mono ?_
       rintro e w1 ⟨rfl, hb⟩
       have hB := hid (below2' _ _ _ _ hb)
       clear hb hC
       go_wp2_with fail
       go_ret
       exact ⟨ret_bool (by rw [hM.out]; simp_all), hB.out⟩)

set_option maxHeartbeats 1000000 in
set_option maxRecDepth 100000 in
theorem same47 (t t' : Int) (a a' : FH) (pv pv' sv sv' : Value) (w : World) (ha : a.params.length ≤ 100000000) (hs : a.body.sz ≤ 100000000) (hs' : a'.body.sz ≤ 100000000) (hpv : SlPz w none a.params pv) (hpv' : SlPz w none a'.params pv') (hsv : SlS w false none a.body sv) (hsv' : SlS w false none a'.body sv') :
    Calls Try.prog 47 #[.agg #[.int .i64 t, .string a.name, pv, .int .u8 a.type, .bool a.opn, sv], .agg #[.int .i64 t', .string a'.name, pv', .int .u8 a'.type, .bool a'.opn, sv']] w fun e w' => e = .returned (.bool (eqF false a a')) ∧ Below w.heap.size w w' := by
  obtain ⟨p0, p1, p2, p3, p4, p5⟩ := a
  obtain ⟨q0, q1, q2, q3, q4, q5⟩ := a'
  obtain ⟨b1, eb1⟩ : ∃ b1, b1 = sameL eqP p2 q2 := ⟨_, rfl⟩
  obtain ⟨b2, eb2⟩ : ∃ b2, b2 = sameS false p5 q5 := ⟨_, rfl⟩
  simp only [] at ha hpv hpv' hs hs' hsv hsv'
  have hC : Hid (∀ w1 : World, Below w.heap.size w w1 → Calls Try.prog 45 #[pv, pv'] w1 fun e w2 => e = .returned (.bool b1) ∧ Below w1.heap.size w1 w2) := hid (fun w1 hw1 => by rw [eb1]; exact params45 p2 q2 _ _ w1 ha (on_below hpv hw1).plain (on_below hpv' hw1).plain)
  have hD : Hid (∀ w1 : World, Below w.heap.size w w1 → Calls Try.prog 48 #[sv, sv'] w1 fun e w2 => e = .returned (.bool b2) ∧ Below w1.heap.size w1 w2) := hid (fun w1 hw1 => by rw [eb2]; exact same48 _ _ _ w1 (same58 _ p5 q5 _ _ w1 (Nat.lt_succ_self _) hs hs' (hsv.mono hw1) (hsv'.mono hw1)))
  have hM : Hid (eqF false ⟨p0, p1, p2, p3, p4, p5⟩ ⟨q0, q1, q2, q3, q4, q5⟩ = ((p1.toList == q1.toList && p3 == q3 && p4 == q4) && b1 && b2)) := hid (by rw [eb1, eb2]; simp [eqF])
  obtain ⟨pva, pvc, rfl⟩ := hpv.shape
  obtain ⟨pva', pvc', rfl⟩ := hpv'.shape
  obtain ⟨sa, sn, sc, rfl⟩ := hsv.shape
  obtain ⟨sa', sn', sc', rfl⟩ := hsv'.shape
  clear hpv hpv' hsv hsv' eb1 eb2
  go_enter Try.func47, Try.ntmps47
  go_wp2_with fail
  all_goals first
    | (go_ret
       exact ⟨ret_bool (by rw [hM.out]; simp_all), below2 _ _ _⟩)
    | (refine (hC.out _ (below2 _ _ _)).mono ?_
       rintro e w1 ⟨rfl, hb⟩
       have q5 : w1.cell? ⟨w.heap.size, 5, none⟩ = some (.slice sa sn sc) := (box_on hb).1 5
       have q5' : w1.cell? ⟨w.heap.size + 1, 5, none⟩ = some (.slice sa' sn' sc') := (box_on hb).2 5
       have hB := hid (below2' _ _ _ _ hb)
       clear hb hC
       cases b1
       · go_wp2_with fail
         go_ret
         exact ⟨ret_bool (by rw [hM.out]; simp), hB.out⟩
       · go_wp2_with fail
         refine (hD.out _ hB.out).mono ?_
         rintro e w2 ⟨rfl, hb⟩
         have hB2 := hid (hB.out.trans (hb.mono hB.out.size))
         clear hb hD q5 q5' hB
         go_wp2_with fail
         go_ret
         exact ⟨ret_bool (by rw [hM.out]; simp_all), hB2.out⟩)

set_option maxHeartbeats 1000000 in
set_option maxRecDepth 100000 in
theorem list41 (l l' : List GH) (v v' : Value) (w : World) (hs : l.length ≤ 100000000)  (hv : SlG w false none l v) (hv' : SlG w false none l' v') :
    Calls Try.prog 41 #[v, v', .func (.func 42) #[] #[]] w fun e w' => e = .returned (.bool (sameL (eqG false) l l')) ∧ Below w.heap.size w w' := by
  obtain ⟨ka, b, off, c, rfl, hka, hin⟩ := hv
  obtain ⟨ka', b', off', c', rfl, hka', hin'⟩ := hv'
  by_cases hq : l.length = l'.length
  · obtain ⟨m, hm⟩ : ∃ m, m = l.length := ⟨_, rfl⟩
    rw [← hm] at hka hq hs ⊢
    rw [← hq] at hka' ⊢
    have hQ := hid (And.intro hm hq)
    have hI := hid (And.intro hin hin')
    have hX := hid (True.intro)
    clear hin hin' hq hm
    go_enter Try.func41, Try.ntmps41
    go_wp2_with fail
    go_loopw [6, 17] (fun z i wr => ∃ (k : Nat), z = .bool false ∧ k ≤ m ∧ i = .int .i64 k ∧ sameL (eqG false) l l' = sameL (eqG false) (l.drop k) (l'.drop k) ∧ Below w.heap.size w wr) (fun _ i _ => m - (intOf i).toNat)
    case atStart => exact ⟨0, rfl, Nat.zero_le _, rfl, rfl, Below.refl _ _⟩
    case round =>
      obtain ⟨k, rfl, hk, rfl, hsm, hb⟩ := hrel
      have hB := hid hb
      by_cases hlt : k < m
      · have hSm := hid (hsm.trans (sameL_at (eqG false) l l' k (by have := hQ.out; omega) (by have := hQ.out; omega)))
        obtain ⟨⟨t, x0, x00⟩, x1, x2, x3, x4⟩ := (hI.out.1 k (by have := hQ.out; omega)).mono hb
        obtain ⟨⟨t', x0', x00'⟩, x1', x2', x3', x4'⟩ := (hI.out.2 k (by have := hQ.out; omega)).mono hb
        have hka2 : ka = some ⟨b, off, none⟩ := by rcases hka with q | q; (· omega); (· exact q.1)
        have hka2' : ka' = some ⟨b', off', none⟩ := by rcases hka' with q | q; (· omega); (· exact q.1)
        have hm1 := hid (List.getElem_mem (l := l) (n := k) (by have := hQ.out; omega))
        have hm2 := hid (List.getElem_mem (l := l') (n := k) (by have := hQ.out; omega))
        subst hka2 hka2'
        have hblt := World.block_lt_of_cell? wr _ x1
        have hblt' := World.block_lt_of_cell? wr _ x1'
        simp only [] at hblt hblt'
        clear hka hka' hb hsm
        generalize l[k]'(by have := hQ.out; omega) = a at *
        generalize l'[k]'(by have := hQ.out; omega) = a' at *
        clear x00 x00'
        go_wp2_with fail
        refine (same42 t t' a a' _).mono ?_
        rintro e w2 ⟨rfl, hb2⟩
        obtain ⟨c0, hc0⟩ : ∃ c0, c0 = eqG false a a' := ⟨_, rfl⟩
        rw [← hc0]
        have hM2 : Hid (sameL (eqG false) l l' = (c0 && sameL (eqG false) (l.drop (k + 1)) (l'.drop (k + 1)))) := hid (by rw [hSm.out, hc0])
        have hB2 := hid (hB.out.trans ((below2' _ _ _ _ hb2).mono hB.out.size))
        clear hb2 hc0 hSm
        cases c0
        · go_wp2_with fail
          go_ret
          exact ⟨ret_bool (by rw [hM2.out]; rfl), hB2.out⟩
        · go_wp2_with fail
          go_roundw
          case rel => exact ⟨k + 1, rfl, by omega, by go_num, by rw [hM2.out]; rfl, hB2.out⟩
          case measure => simp [intOf]; omega
      · obtain rfl : k = m := by omega
        have hE := hid (hsm.trans (sameL_end (eqG false) l l' k (by have := hQ.out; omega) (by have := hQ.out; omega)))
        clear hsm hb
        go_wp2_with fail
        go_ret
        exact ⟨ret_bool hE.out.symm, hB.out⟩
  · have hbq : ((l.length : Int) != (l'.length : Int)) = true := by simp; omega
    have hf := hid (sameL_len (eqG false) hq)
    clear hin hin' hka hka' hq
    go_enter Try.func41, Try.ntmps41
    go_wp2_with fail
    go_ret
    exact ⟨ret_bool hf.out.symm, Below.refl _ _⟩

set_option maxHeartbeats 1000000 in
set_option maxRecDepth 100000 in
theorem list43 (l l' : List HH) (v v' : Value) (w : World) (hs : l.length ≤ 100000000) (hx : ∀ x ∈ l, x.params.length ≤ 100000000) (hv : SlH w false none l v) (hv' : SlH w false none l' v') :
    Calls Try.prog 43 #[v, v', .func (.func 44) #[] #[]] w fun e w' => e = .returned (.bool (sameL (eqH false) l l')) ∧ Below w.heap.size w w' := by
  obtain ⟨ka, b, off, c, rfl, hka, hin⟩ := hv
  obtain ⟨ka', b', off', c', rfl, hka', hin'⟩ := hv'
  by_cases hq : l.length = l'.length
  · obtain ⟨m, hm⟩ : ∃ m, m = l.length := ⟨_, rfl⟩
    rw [← hm] at hka hq hs ⊢
    rw [← hq] at hka' ⊢
    have hQ := hid (And.intro hm hq)
    have hI := hid (And.intro hin hin')
    have hX := hid hx
    clear hin hin' hq hm hx
    go_enter Try.func43, Try.ntmps43
    go_wp2_with fail
    go_loopw [6, 17] (fun z i wr => ∃ (k : Nat), z = .bool false ∧ k ≤ m ∧ i = .int .i64 k ∧ sameL (eqH false) l l' = sameL (eqH false) (l.drop k) (l'.drop k) ∧ Below w.heap.size w wr) (fun _ i _ => m - (intOf i).toNat)
    case atStart => exact ⟨0, rfl, Nat.zero_le _, rfl, rfl, Below.refl _ _⟩
    case round =>
      obtain ⟨k, rfl, hk, rfl, hsm, hb⟩ := hrel
      have hB := hid hb
      by_cases hlt : k < m
      · have hSm := hid (hsm.trans (sameL_at (eqH false) l l' k (by have := hQ.out; omega) (by have := hQ.out; omega)))
        obtain ⟨⟨t, x0, x00⟩, x1, ⟨pv, x2, y2⟩, x3, x4⟩ := (hI.out.1 k (by have := hQ.out; omega)).mono hb
        obtain ⟨⟨t', x0', x00'⟩, x1', ⟨pv', x2', y2'⟩, x3', x4'⟩ := (hI.out.2 k (by have := hQ.out; omega)).mono hb
        have hka2 : ka = some ⟨b, off, none⟩ := by rcases hka with q | q; (· omega); (· exact q.1)
        have hka2' : ka' = some ⟨b', off', none⟩ := by rcases hka' with q | q; (· omega); (· exact q.1)
        have hm1 := hid (List.getElem_mem (l := l) (n := k) (by have := hQ.out; omega))
        have hm2 := hid (List.getElem_mem (l := l') (n := k) (by have := hQ.out; omega))
        subst hka2 hka2'
        have hblt := World.block_lt_of_cell? wr _ x1
        have hblt' := World.block_lt_of_cell? wr _ x1'
        simp only [] at hblt hblt'
        clear hka hka' hb hsm
        generalize l[k]'(by have := hQ.out; omega) = a at *
        generalize l'[k]'(by have := hQ.out; omega) = a' at *
        clear x00 x00'
        obtain ⟨pva, pvc, rfl⟩ := y2.shape
        obtain ⟨pva', pvc', rfl⟩ := y2'.shape
        have Y2 := hid (And.intro y2 y2')
        clear y2 y2'
        go_wp2_with fail
        refine (same44 t t' a a' _ _ _ (hX.out _ hm1.out) (on_below Y2.out.1 (below2 _ _ _)) (on_below Y2.out.2 (below2 _ _ _))).mono ?_
        rintro e w2 ⟨rfl, hb2⟩
        obtain ⟨c0, hc0⟩ : ∃ c0, c0 = eqH false a a' := ⟨_, rfl⟩
        rw [← hc0]
        have hM2 : Hid (sameL (eqH false) l l' = (c0 && sameL (eqH false) (l.drop (k + 1)) (l'.drop (k + 1)))) := hid (by rw [hSm.out, hc0])
        have hB2 := hid (hB.out.trans ((below2' _ _ _ _ hb2).mono hB.out.size))
        clear hb2 hc0 hSm
        cases c0
        · go_wp2_with fail
          go_ret
          exact ⟨ret_bool (by rw [hM2.out]; rfl), hB2.out⟩
        · go_wp2_with fail
          go_roundw
          case rel => exact ⟨k + 1, rfl, by omega, by go_num, by rw [hM2.out]; rfl, hB2.out⟩
          case measure => simp [intOf]; omega
      · obtain rfl : k = m := by omega
        have hE := hid (hsm.trans (sameL_end (eqH false) l l' k (by have := hQ.out; omega) (by have := hQ.out; omega)))
        clear hsm hb
        go_wp2_with fail
        go_ret
        exact ⟨ret_bool hE.out.symm, hB.out⟩
  · have hbq : ((l.length : Int) != (l'.length : Int)) = true := by simp; omega
    have hf := hid (sameL_len (eqH false) hq)
    clear hin hin' hka hka' hq
    go_enter Try.func43, Try.ntmps43
    go_wp2_with fail
    go_ret
    exact ⟨ret_bool hf.out.symm, Below.refl _ _⟩

set_option maxHeartbeats 1000000 in
set_option maxRecDepth 100000 in
theorem list46 (l l' : List FH) (v v' : Value) (w : World) (hs : l.length ≤ 100000000) (hx : (∀ x ∈ l, x.params.length ≤ 100000000 ∧ x.body.sz ≤ 100000000) ∧ (∀ x ∈ l', x.body.sz ≤ 100000000)) (hv : SlF w false none l v) (hv' : SlF w false none l' v') :
    Calls Try.prog 46 #[v, v', .func (.func 47) #[] #[]] w fun e w' => e = .returned (.bool (sameL (eqF false) l l')) ∧ Below w.heap.size w w' := by
  obtain ⟨ka, b, off, c, rfl, hka, hin⟩ := hv
  obtain ⟨ka', b', off', c', rfl, hka', hin'⟩ := hv'
  by_cases hq : l.length = l'.length
  · obtain ⟨m, hm⟩ : ∃ m, m = l.length := ⟨_, rfl⟩
    rw [← hm] at hka hq hs ⊢
    rw [← hq] at hka' ⊢
    have hQ := hid (And.intro hm hq)
    have hI := hid (And.intro hin hin')
    have hX := hid hx
    clear hin hin' hq hm hx
    go_enter Try.func46, Try.ntmps46
    go_wp2_with fail
    go_loopw [6, 17] (fun z i wr => ∃ (k : Nat), z = .bool false ∧ k ≤ m ∧ i = .int .i64 k ∧ sameL (eqF false) l l' = sameL (eqF false) (l.drop k) (l'.drop k) ∧ Below w.heap.size w wr) (fun _ i _ => m - (intOf i).toNat)
    case atStart => exact ⟨0, rfl, Nat.zero_le _, rfl, rfl, Below.refl _ _⟩
    case round =>
      obtain ⟨k, rfl, hk, rfl, hsm, hb⟩ := hrel
      have hB := hid hb
      by_cases hlt : k < m
      · have hSm := hid (hsm.trans (sameL_at (eqF false) l l' k (by have := hQ.out; omega) (by have := hQ.out; omega)))
        obtain ⟨⟨t, x0, x00⟩, x1, ⟨pv, x2, y2⟩, x3, x4, ⟨sv, x5, y5⟩⟩ := (hI.out.1 k (by have := hQ.out; omega)).mono hb
        obtain ⟨⟨t', x0', x00'⟩, x1', ⟨pv', x2', y2'⟩, x3', x4', ⟨sv', x5', y5'⟩⟩ := (hI.out.2 k (by have := hQ.out; omega)).mono hb
        have hka2 : ka = some ⟨b, off, none⟩ := by rcases hka with q | q; (· omega); (· exact q.1)
        have hka2' : ka' = some ⟨b', off', none⟩ := by rcases hka' with q | q; (· omega); (· exact q.1)
        have hm1 := hid (List.getElem_mem (l := l) (n := k) (by have := hQ.out; omega))
        have hm2 := hid (List.getElem_mem (l := l') (n := k) (by have := hQ.out; omega))
        subst hka2 hka2'
        have hblt := World.block_lt_of_cell? wr _ x1
        have hblt' := World.block_lt_of_cell? wr _ x1'
        simp only [] at hblt hblt'
        clear hka hka' hb hsm
        generalize l[k]'(by have := hQ.out; omega) = a at *
        generalize l'[k]'(by have := hQ.out; omega) = a' at *
        clear x00 x00'
        obtain ⟨pva, pvc, rfl⟩ := y2.shape
        obtain ⟨pva', pvc', rfl⟩ := y2'.shape
        have Y2 := hid (And.intro y2 y2')
        clear y2 y2'
        obtain ⟨sa, sn, sc, rfl⟩ := y5.shape
        obtain ⟨sa', sn', sc', rfl⟩ := y5'.shape
        have Y5 := hid (And.intro y5 y5')
        clear y5 y5'
        go_wp2_with fail
        refine (same47 t t' a a' _ _ _ _ _ (hX.out.1 _ hm1.out).1 (hX.out.1 _ hm1.out).2 (hX.out.2 _ hm2.out) (on_below Y2.out.1 (below2 _ _ _)) (on_below Y2.out.2 (below2 _ _ _)) (Y5.out.1.mono (below2 _ _ _)) (Y5.out.2.mono (below2 _ _ _))).mono ?_
        rintro e w2 ⟨rfl, hb2⟩
        obtain ⟨c0, hc0⟩ : ∃ c0, c0 = eqF false a a' := ⟨_, rfl⟩
        rw [← hc0]
        have hM2 : Hid (sameL (eqF false) l l' = (c0 && sameL (eqF false) (l.drop (k + 1)) (l'.drop (k + 1)))) := hid (by rw [hSm.out, hc0])
        have hB2 := hid (hB.out.trans ((below2' _ _ _ _ hb2).mono hB.out.size))
        clear hb2 hc0 hSm
        cases c0
        · go_wp2_with fail
          go_ret
          exact ⟨ret_bool (by rw [hM2.out]; rfl), hB2.out⟩
        · go_wp2_with fail
          go_roundw
          case rel => exact ⟨k + 1, rfl, by omega, by go_num, by rw [hM2.out]; rfl, hB2.out⟩
          case measure => simp [intOf]; omega
      · obtain rfl : k = m := by omega
        have hE := hid (hsm.trans (sameL_end (eqF false) l l' k (by have := hQ.out; omega) (by have := hQ.out; omega)))
        clear hsm hb
        go_wp2_with fail
        go_ret
        exact ⟨ret_bool hE.out.symm, hB.out⟩
  · have hbq : ((l.length : Int) != (l'.length : Int)) = true := by simp; omega
    have hf := hid (sameL_len (eqF false) hq)
    clear hin hin' hka hka' hq
    go_enter Try.func46, Try.ntmps46
    go_wp2_with fail
    go_ret
    exact ⟨ret_bool hf.out.symm, Below.refl _ _⟩

set_option maxHeartbeats 1000000 in
set_option maxRecDepth 100000 in
theorem unit26 (u u' : UT) (v v' : Value) (w : World) (ok : u.Ok) (ok' : u'.Ok) (hv : UIn w false none u v) (hv' : UIn w false none u' v') :
    Calls Try.prog 26 #[v, v'] w fun e w' => e = .returned (.bool (sameU false u u')) ∧ Below w.heap.size w w' := by
  obtain ⟨vg, vh, vf, rfl, g, h, f⟩ := hv
  obtain ⟨vg', vh', vf', rfl, g', h', f'⟩ := hv'
  obtain ⟨b1, e1⟩ : ∃ b, b = sameL (eqG false) u.gs u'.gs := ⟨_, rfl⟩
  obtain ⟨b2, e2⟩ : ∃ b, b = sameL (eqH false) u.hs u'.hs := ⟨_, rfl⟩
  obtain ⟨b3, e3⟩ : ∃ b, b = sameL (eqF false) u.fs u'.fs := ⟨_, rfl⟩
  have hM : Hid (sameU false u u' = (b1 && b2 && b3)) := hid (by rw [e1, e2, e3]; rfl)
  have hG : Hid (∀ w1 : World, Below w.heap.size w w1 → Calls Try.prog 41 #[vg, vg', .func (.func 42) #[] #[]] w1 fun e w2 => e = .returned (.bool b1) ∧ Below w1.heap.size w1 w2) := hid (fun w1 hw1 => by rw [e1]; exact list41 _ _ _ _ w1 ok.g (g.mono hw1 (fun _ _ _ h => h.mono hw1)) (g'.mono hw1 (fun _ _ _ h => h.mono hw1)))
  have hH : Hid (∀ w1 : World, Below w.heap.size w w1 → Calls Try.prog 43 #[vh, vh', .func (.func 44) #[] #[]] w1 fun e w2 => e = .returned (.bool b2) ∧ Below w1.heap.size w1 w2) := hid (fun w1 hw1 => by rw [e2]; exact list43 _ _ _ _ w1 ok.h ok.hp (h.mono hw1 (fun _ _ _ h => h.mono hw1)) (h'.mono hw1 (fun _ _ _ h => h.mono hw1)))
  have hF : Hid (∀ w1 : World, Below w.heap.size w w1 → Calls Try.prog 46 #[vf, vf', .func (.func 47) #[] #[]] w1 fun e w2 => e = .returned (.bool b3) ∧ Below w1.heap.size w1 w2) := hid (fun w1 hw1 => by rw [e3]; exact list46 _ _ _ _ w1 ok.f ⟨fun x hx => ⟨ok.fp x hx, ok.fb x hx⟩, ok'.fb⟩ (f.mono hw1 (fun _ _ _ h => h.mono hw1)) (f'.mono hw1 (fun _ _ _ h => h.mono hw1)))
  obtain ⟨ga, gc, rfl⟩ := g.shape
  obtain ⟨ga', gc', rfl⟩ := g'.shape
  obtain ⟨ha, hc, rfl⟩ := h.shape
  obtain ⟨ha', hc', rfl⟩ := h'.shape
  obtain ⟨fa, fc, rfl⟩ := f.shape
  obtain ⟨fa', fc', rfl⟩ := f'.shape
  clear g g' h h' f f' e1 e2 e3
  go_enter Try.func26, Try.ntmps26
  go_wp2_with fail
  refine (hG.out _ (below2 _ _ _)).mono ?_
  rintro e w2 ⟨rfl, hb2⟩
  have q1 : w2.cell? ⟨w.heap.size, 1, none⟩ = some (.slice ha u.hs.length hc) := (box_on hb2).1 1
  have q2 : w2.cell? ⟨w.heap.size, 2, none⟩ = some (.slice fa u.fs.length fc) := (box_on hb2).1 2
  have q1' : w2.cell? ⟨w.heap.size + 1, 1, none⟩ = some (.slice ha' u'.hs.length hc') := (box_on hb2).2 1
  have q2' : w2.cell? ⟨w.heap.size + 1, 2, none⟩ = some (.slice fa' u'.fs.length fc') := (box_on hb2).2 2
  have hB2 := hid (below2' _ _ _ _ hb2)
  clear hb2 hG
  cases b1
  · go_wp2_with fail
    go_ret
    exact ⟨ret_bool (by rw [hM.out]; simp), hB2.out⟩
  · go_wp2_with fail
    refine (hH.out _ hB2.out).mono ?_
    rintro e w3 ⟨rfl, hb3⟩
    have p2 := cell_on q2 hb3
    have p2' := cell_on q2' hb3
    have hB3 := hid (hB2.out.trans (hb3.mono hB2.out.size))
    clear hb3 hH hB2 q1 q1' q2 q2'
    cases b2
    · go_wp2_with fail
      go_ret
      exact ⟨ret_bool (by rw [hM.out]; simp), hB3.out⟩
    · go_wp2_with fail
      refine (hF.out _ hB3.out).mono ?_
      rintro e w4 ⟨rfl, hb4⟩
      have hB4 := hid (hB3.out.trans (hb4.mono hB3.out.size))
      clear hb4 hF hB3
      go_wp2_with fail
      go_ret
      exact ⟨ret_bool (by rw [hM.out]; simp), hB4.out⟩
end Go.Proofs.Ytmbdlhgclkbdiaa
