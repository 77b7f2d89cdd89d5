/- Walks: Mend of the program, weight. -/
import Derived.Laws.CopyOwn
import Derived.Test.YtdhicfolchpmhaaRunB
import Derived.Test.YtdhicfolchpmhaaKitD
namespace Go.Proofs.Ytdhicfolchpmhaa
open Go.RowKit
set_option linter.unusedVariables false
set_option linter.unusedSimpArgs false

/-- runs that lie somewhere -/
structure Wrs (w : World) (ao : Option Addr) (R : List RunW) : Prop where
  ex : ∃ b off, (R.length = 0 ∨ ao = some ⟨b, off, none⟩) ∧ ∀ i (h : i < R.length), w.cell? ⟨b, off + i * 2, none⟩ = some (.int .u32 R[i].at_) ∧ w.cell? ⟨b, off + i * 2 + 1, none⟩ = some R[i].v
  ints : ∀ i (h : i < R.length), ∃ so c, R[i].v = .slice so R[i].l.length c ∧ Ints .u8 w so R[i].l
  bat : ∀ i (h : i < R.length), R[i].at_ ≤ 4294967295
  bl : ∀ i (h : i < R.length), R[i].l.length ≤ 100000000
theorem Wrs.mono {w w' : World} {ao : Option Addr} {R : List RunW} (h : Wrs w ao R) (hb : Below w.heap.size w w') : Wrs w' ao R := by
  obtain ⟨⟨b, off, h1, h2⟩, h3, h4, h5⟩ := h
  refine ⟨⟨b, off, h1, fun i hi => ⟨(hb.cell (World.block_lt_of_cell? w _ (h2 i hi).1)).trans (h2 i hi).1, (hb.cell (World.block_lt_of_cell? w _ (h2 i hi).2)).trans (h2 i hi).2⟩⟩, fun i hi => ?_, h4, h5⟩
  obtain ⟨so, c, e1, e2⟩ := h3 i hi
  exact ⟨so, c, e1, e2.mono hb⟩

theorem own_splice {w w' : World} {B g n cap off : Nat} {b l : List Int} {cur : Array Value} (h : w.ownsRow B 5 1 (.slice (some ⟨g, 0, none⟩) n cap) n (b.map (Value.int .u8))) (hg : w.heap[g]? = some (.cells cur 5 (0, 0))) (hfit : off + l.length ≤ n)
    (h' : w'.heap[g]? = some (.cells (splice cur.toList off (l.map (Value.int .u8))).toArray 5 (0, 0))) : w'.ownsRow B 5 1 (.slice (some ⟨g, 0, none⟩) n cap) n ((laid b off l).map (Value.int .u8)) := by
  obtain ⟨h1, h2⟩ := h
  simp only [List.length_map, Nat.mul_one] at h1
  rcases h2 with ⟨hv, _⟩ | ⟨g', cap', cur', hv, hg', hh, a, d, c, e⟩
  · cases hv
  · simp only [Value.slice.injEq, Option.some.injEq, Addr.mk.injEq, and_true, true_and] at hv
    obtain ⟨rfl, rfl⟩ := hv
    rw [hg] at hh
    simp only [Option.some.injEq, Obj.cells.injEq, and_true] at hh
    subst hh
    rw [Nat.mul_one] at c e
    have hcl : cur.toList.length = cap := by simpa using c
    refine ⟨by rw [List.length_map, laid_len _ _ _ (by omega)]; omega, .inr ⟨g, cap, _, rfl, hg', h', a, d, ?_, ?_⟩⟩
    · rw [List.size_toArray, length_splice _ _ _ (by rw [List.length_map, hcl]; omega), hcl, Nat.mul_one]
    · rw [Nat.mul_one]
      simp only [splice, laid, List.map_append, List.map_take, List.map_drop, ← e, List.length_map, List.append_assoc]
      rw [List.take_append, List.take_append, List.take_take, List.length_take, List.length_map, List.take_take, List.drop_take]
      rw [show min n off = off by omega, show min off n = off by omega, hcl, show min off cap = off by omega, List.take_of_length_le (show (List.map (Value.int IntKind.u8) l).length ≤ n - off by rw [List.length_map]; omega), show n - off - l.length = n - (off + l.length) by omega]

theorem okR_cons_false {n a : Nat} {r : Nat × List Int} {rs : Runz} (h : ¬ (0 < r.2.length ∧ a ≤ r.1 ∧ r.1 + r.2.length ≤ n)) : okR n a (r :: rs) = false := by
  obtain ⟨s, l⟩ := r
  simp only [okR]
  by_cases h1 : 0 < l.length
  · by_cases h2 : a ≤ s
    · by_cases h3 : s + l.length ≤ n
      · exact absurd ⟨h1, h2, h3⟩ h
      · simp [h3]
    · simp [h2]
  · simp [h1]
theorem okR_one {n a : Nat} {r : Nat × List Int} (h : 0 < r.2.length ∧ a ≤ r.1 ∧ r.1 + r.2.length ≤ n) : okR n a [r] = true := by
  obtain ⟨s, l⟩ := r
  simp only [okR]
  simp [h.2.1, h.2.2]
  simpa using h.1
theorem take_two (R : List RunW) (k : Nat) (h : k < R.length) : (R.map RunW.two).take (k + 1) = (R.map RunW.two).take k ++ [R[k].two] := by
  rw [List.take_add_one, List.getElem?_map, List.getElem?_eq_getElem h]; rfl
theorem drop_two (R : List RunW) (k : Nat) (h : k < R.length) : R.map RunW.two = (R.map RunW.two).take k ++ R[k].two :: (R.map RunW.two).drop (k + 1) := by
  have e : (R.map RunW.two).drop k = R[k].two :: (R.map RunW.two).drop (k + 1) := by
    rw [List.drop_eq_getElem_cons (by simpa using h), List.getElem_map]
  rw [← e, List.take_append_drop]
theorem endR_bd {n : Nat} : ∀ (rs : Runz) (a : Nat), a ≤ n → okR n a rs = true → endR a rs ≤ n
  | [], a, ha, _ => ha
  | (s, l) :: rs, a, ha, h => by
    simp only [okR, Bool.and_eq_true, decide_eq_true_eq] at h
    exact endR_bd rs (s + l.length) h.1.2 h.2
theorem weigh_take (R : List RunW) (k : Nat) (h : k < R.length) : weigh ((R.map RunW.two).take (k + 1)) = weigh ((R.map RunW.two).take k) + R[k].l.length := by
  rw [take_two R k h, weigh_append]; simp [weigh, RunW.two]

set_option maxHeartbeats 1000000 in
theorem runsNo55 (ao bo : Option Addr) (n m c1 c2 : Nat) (w : World) (hne : n ≠ m) :
    Calls Try.prog 55 #[.slice ao n c1, .slice bo m c2] w fun e w' => e = .returned (.tuple #[.slice none 0 0, .int .i64 22]) ∧ w = w' := by
  have hq : ((n : Int) != (m : Int)) = true := by simp; omega
  clear hne
  go_enter Try.func55, Try.ntmps55
  go_wp2_with fail
  go_step3
  go_wp2_with fail
  (try rw [Exit.noGoto_ret])
  go_ret2
  exact ⟨rfl, rfl⟩

set_option maxHeartbeats 1000000 in
theorem weight58 (ro : Option Addr) (rc : Nat) (R : List RunW) (w : World) (hR : R.length ≤ 100000000) (hr : Wrs w ro R) :
    Calls Try.prog 58 #[.slice ro R.length rc] w fun e w' => e = .returned (.int .i64 (weigh (R.map RunW.two))) ∧ w = w' := by
  obtain ⟨⟨b, off, hro, hc⟩, hi, -, hl⟩ := hr
  have hC := hid hc
  have hI := hid hi
  have hL := hid hl
  have hT := hid (weigh_take R)
  have hA : Hid ((R.map RunW.two).take R.length = R.map RunW.two) := List.take_of_length_le (by simp)
  have hbd : Hid (∀ k, k ≤ R.length → weigh ((R.map RunW.two).take k) ≤ k * 100000000) := fun k => by
    induction k with
    | zero => intro _; simp [weigh]
    | succ k ih =>
      intro hk
      rw [hT.out k (by omega)]
      have := ih (by omega)
      have := hL.out k (by omega)
      omega
  clear hc hi hl
  go_enter Try.func58, Try.ntmps58
  go_wp2_with fail
  go_loopw [3, 4] (fun s i wr => ∃ k : Nat, k ≤ R.length ∧ s = .int .i64 (weigh ((R.map RunW.two).take k)) ∧ i = .int .i64 k ∧ w = wr) (fun _ i _ => R.length - (intOf i).toNat)
  case atStart => exact ⟨0, Nat.zero_le _, by simp [weigh], rfl, rfl⟩
  case round =>
    obtain ⟨k, hk, rfl, rfl, rfl⟩ := hrel
    by_cases hlt : k < R.length
    · rcases hro with h0 | rfl
      · omega
      have hc1 := (hC.out k hlt).2
      obtain ⟨so, c, hv, -⟩ := hI.out k hlt
      rw [hv] at hc1
      have hb1 := hbd.out k hk
      have hb2 := hL.out k hlt
      have hT1 := hid (hT.out k hlt)
      clear hv
      generalize R[k].l.length = L at *
      generalize weigh ((R.map RunW.two).take k) = W at *
      have hb3 : W ≤ 10000000000000000 := by
        have := Nat.mul_le_mul_right 100000000 hk
        have := Nat.mul_le_mul_right 100000000 hR
        omega
      clear hb1
      go_wp2_with fail
      go_roundw
      case rel => exact ⟨k + 1, by omega, by rw [hT1.out]; go_num, by go_num, trivial⟩
      case measure => simp [intOf]; omega
    · obtain rfl : k = R.length := by omega
      go_wp2_with fail
      go_ret
      refine ⟨?_, rfl⟩
      (try rw [hA.out])
      rfl
set_option maxHeartbeats 2000000 in
set_option maxRecDepth 100000 in
theorem mend52 (ao : Option Addr) (n c1 : Nat) (x : List Int) (ro : Option Addr) (rc : Nat) (R : List RunW) (w : World) (hx : n = x.length) (hn : n ≤ 100000000) (hR : R.length ≤ 100000000) (hi : Ints .u8 w ao x) (hr : Wrs w ro R) :
    Calls Try.prog 52 #[.slice ao n c1, .slice ro R.length rc] w fun e w' => ((okR n 0 (R.map RunW.two) = true ∧ ∃ v, e = .returned (.tuple #[v, .int .i64 0]) ∧ w'.ownsRow w.heap.size 5 1 v n ((mendR x (R.map RunW.two)).map (Value.int .u8))) ∨ (okR n 0 (R.map RunW.two) = false ∧ e = .returned (.tuple #[.slice none 0 0, .int .i64 23]))) ∧ Below w.heap.size w w' := by
  obtain ⟨⟨b, off, hro, hc⟩, hin, hba, hl⟩ := hr
  have hC := hid (fun W (hW : Below w.heap.size w W) i (h : i < R.length) => And.intro ((hW.cell (World.block_lt_of_cell? w _ (hc i h).1)).trans (hc i h).1) ((hW.cell (World.block_lt_of_cell? w _ (hc i h).2)).trans (hc i h).2))
  have hI : Hid (∀ i (h : i < R.length), ∃ so c, R[i].v = .slice so R[i].l.length c ∧ ∀ W, Below w.heap.size w W → Ints .u8 W so R[i].l) := fun i h => by
    obtain ⟨so, c, h1, h2⟩ := hin i h
    exact ⟨so, c, h1, fun W hW => h2.mono hW⟩
  have hL := hid hl
  have hBA := hid hba
  have hA : Hid ((R.map RunW.two).take R.length = R.map RunW.two) := List.take_of_length_le (by simp)
  have hT := hid (take_two R)
  have hD := hid (drop_two R)
  have hXI := hid hi
  have hX := hid hx
  clear hc hin hl hba hi hx
  go_enter Try.func52, Try.ntmps52
  go_wp2_with fail
  go_loopw [6, 15] (fun la i wr => ∃ (k e : Nat), k ≤ R.length ∧ i = .int .i64 k ∧ la = .int .i64 e ∧ e ≤ n ∧ e = endR 0 ((R.map RunW.two).take k) ∧ okR n 0 ((R.map RunW.two).take k) = true ∧ Below w.heap.size w wr) (fun _ i _ => R.length - (intOf i).toNat)
  case atStart => exact ⟨0, 0, Nat.zero_le _, rfl, rfl, Nat.zero_le _, by simp [endR], by simp [okR], Below.refl _ _⟩
  case round =>
    obtain ⟨k, e, hk, rfl, rfl, hen, he, hok, hb⟩ := hrel
    have hE := hid he
    have hOk := hid hok
    have hB := hid hb
    clear he hok hb
    by_cases hlt : k < R.length
    · rcases hro with h0 | rfl
      · omega
      have hc1 := (hC.out wr hB.out k hlt).1
      have hc2 := (hC.out wr hB.out k hlt).2
      obtain ⟨so, c, hv, -⟩ := hI.out k hlt
      rw [hv] at hc2
      have hl1 := hL.out k hlt
      have ha1 := hBA.out k hlt
      have hD1 := hid (hD.out k hlt)
      have hT1 := hid (hT.out k hlt)
      have h2 : Hid (R[k].two = (R[k].at_, R[k].l)) := rfl
      clear hv
      generalize R[k].two = r at *
      generalize R[k].at_ = A at *
      obtain ⟨L, hLL⟩ : ∃ L, L = R[k].l.length := ⟨_, rfl⟩
      have hLe := hid hLL
      rw [← hLL] at hc2 hl1
      clear hLL
      have hw1 : IntKind.i64.wrap (A : Int) = A := IntWalk.i64_in _ (by omega)
      have hw2 : IntKind.i64.wrap ((n : Int) - L) = (n : Int) - L := IntWalk.i64_in _ (by omega)
      have hw3 : IntKind.i64.wrap ((A : Int) + L) = (A : Int) + L := IntWalk.i64_in _ (by omega)
      have hbw := hid (hB.out.alloc hB.out.size (.cells #[.int .u32 A, .slice so L c] 104))
      have hbad : Hid (¬ (0 < L ∧ e ≤ A ∧ A + L ≤ n) → okR n 0 (R.map RunW.two) = false) := fun h => by
        rw [hD1.out, okR_append, hOk.out, ← hE.out, Bool.true_and]
        refine okR_cons_false ?_
        rw [h2.out, ← hLe.out]
        exact h
      by_cases hL0 : L = 0
      · subst hL0
        have hbad' := hid (hbad.out (by omega))
        clear hbad hw2 hw3
        go_wp2_with fail
        go_ret2
        exact ⟨.inr ⟨hbad'.out, rfl⟩, hbw.out⟩
      · have hq1 : ((L : Int) == 0) = false := by simp [hL0]
        have hq1' : ((L : Int) = 0) = False := eq_false (by omega)
        by_cases hA0 : A < e
        · have hbad' := hid (hbad.out (by omega))
          have hq2 : ((A : Int) < (e : Int)) = True := eq_true (by omega)
          clear hbad hL0 hw2 hw3
          go_wp2_with fail
          go_ret2
          exact ⟨.inr ⟨hbad'.out, rfl⟩, hbw.out⟩
        · have hq2 : ((A : Int) < (e : Int)) = False := eq_false (by omega)
          by_cases hA1 : n < A + L
          · have hbad' := hid (hbad.out (by omega))
            have hq3 : ((n : Int) - L < (A : Int)) = True := eq_true (by omega)
            clear hbad hL0 hA0 hw3
            go_wp2_with fail
            go_ret2
            exact ⟨.inr ⟨hbad'.out, rfl⟩, hbw.out⟩
          · have hq3 : ((n : Int) - L < (A : Int)) = False := eq_false (by omega)
            have hgood : Hid (0 < r.2.length ∧ endR 0 ((R.map RunW.two).take k) ≤ r.1 ∧ r.1 + r.2.length ≤ n) := by
              rw [h2.out, ← hE.out]
              show 0 < R[k].l.length ∧ e ≤ A ∧ A + R[k].l.length ≤ n
              rw [← hLe.out]
              omega
            have hfit : Hid (A + L ≤ n) := by unfold Hid; omega
            clear hbad hL0 hA0 hA1
            go_wp2_with fail
            go_roundw
            case rel => exact ⟨k + 1, A + L, by omega, by go_num, by go_num, hfit.out, by rw [hT1.out, endR_append, h2.out]; simp [endR, hLe.out], by rw [hT1.out, okR_append, hOk.out, Bool.true_and]; exact okR_one hgood.out, hbw.out⟩
            case measure => simp [intOf]; omega
    · obtain rfl : k = R.length := by omega
      have hOkA := hid (hA.out ▸ hOk.out)
      clear hE hOk hlt
      go_wp2_with fail
      have h86 := clone_any ao n c1 x wr hX.out (by rw [← hX.out]; omega) (hXI.out.mono hB.out)
      refine h86.mono ?_
      clear h86
      rintro e2 w2 ⟨v, rfl, ho, hb2⟩
      have hO := hid (own_base ho hB.out.size)
      have hB2 := hid (hB.out.trans (hb2.mono hB.out.size))
      clear ho hb2 hB
      go_wp2_with fail
      go_loopw [51] (fun i wr => ∃ k : Nat, k ≤ R.length ∧ i = .int .i64 k ∧ wr.ownsRow w.heap.size 5 1 v n ((mendR x ((R.map RunW.two).take k)).map (Value.int .u8)) ∧ Below w.heap.size w wr) (fun i _ => R.length - (intOf i).toNat)
      case atStart => exact ⟨0, Nat.zero_le _, rfl, by simpa [mendR] using hO.out, hB2.out⟩
      case round =>
        clear hO hB2
        obtain ⟨k, hk, rfl, ho, hb⟩ := hrel
        have hB := hid hb
        have hsz := hb.size
        clear hb
        by_cases hlt : k < R.length
        · rcases hro with h0 | rfl
          · omega
          have hfit : Hid (0 < R[k].l.length ∧ R[k].at_ + R[k].l.length ≤ n) := by
            have h1 := hOkA.out
            rw [hD.out k hlt, okR_append, Bool.and_eq_true] at h1
            have h2 := h1.2
            simp only [RunW.two, okR, Bool.and_eq_true, decide_eq_true_eq] at h2
            exact ⟨of_decide_eq_true h2.1.1.1, of_decide_eq_true h2.1.2⟩
          obtain ⟨g, cap, hv, hg1, hg2, hnc, -⟩ := own_shape ho (by have := hfit.out; omega)
          subst hv
          have hO := hid ho
          clear ho
          have hc1 := (hC.out wr hB.out k hlt).1
          have hc2 := (hC.out wr hB.out k hlt).2
          obtain ⟨so, c, hv, hsi⟩ := hI.out k hlt
          rw [hv] at hc2
          have hSI := hid hsi
          have hT1 := hid (hT.out k hlt)
          have h2 : Hid (R[k].two = (R[k].at_, R[k].l)) := rfl
          clear hv hsi
          generalize R[k].two = r at *
          generalize R[k].at_ = A at *
          generalize R[k].l = l at *
          have hfA := hid hfit.out
          have hx1 : (A : Int) ≤ (n : Int) := by have := hfit.out; omega
          have hx2 : (A : Int) < (cap : Int) := by have := hfit.out; omega
          have hx3 : (A : Int) ≤ (cap : Int) := by omega
          have hx4 : (n : Int) ≤ (cap : Int) := by omega
          have hw1 : IntKind.i64.wrap (A : Int) = A := IntWalk.i64_in _ (by omega)
          obtain ⟨wa, hwa⟩ : ∃ wa, wa = wr.alloc (.cells #[.int .u32 A, .slice so l.length c] 104) := ⟨_, rfl⟩
          have hOa := hid (hO.out.alloc (.cells #[.int .u32 A, .slice so l.length c] 104))
          have hBa := hid (hB.out.alloc hB.out.size (.cells #[.int .u32 A, .slice so l.length c] 104))
          have hq0 : Hid ((wr.alloc (.cells #[.int .u32 A, .slice so l.length c] 104)).cell? ⟨wr.heap.size, 0, none⟩ = some (.int .u32 A)) := by unfold Hid; simp
          have hq1 : Hid ((wr.alloc (.cells #[.int .u32 A, .slice so l.length c] 104)).cell? ⟨wr.heap.size, 1, none⟩ = some (.slice so l.length c)) := by unfold Hid; simp
          rw [← hwa] at hOa hBa hq0 hq1
          obtain ⟨q, hq⟩ : ∃ q, q = wr.heap.size := ⟨_, rfl⟩
          rw [← hq] at hq0 hq1
          go_wp2_with fail
          rw [← hwa, ← hq]
          clear hwa hq hO hB hc1 hc2
          have hd0 := hq0.out
          have hd1 := hq1.out
          go_wp2_with fail
          refine wp_region_held_drew (S := fun _ => True) (by kernel_rfl) trivial (fun hHeld => ?_)
          refine wpAnyH_take (i := 0) (v := ?_) (by simp only [List.getElem?_toArray, List.getElem?_cons_succ, List.getElem?_cons_zero]; rfl) (by kernel_rfl) (by kernel_rfl) (by kernel_rfl) (by intro _ _ _ h; exact h) (Or.inl ⟨by rfl, ?_⟩) (by assumption) ?_
          rotate_left
          · intro w' hSw; (try dsimp only at hSw); go_simp; (try with_reducible rfl)
          try simp only [Act.put, List.setIfInBounds_toArray, List.set_cons_zero, List.set_cons_succ]
          refine wpAnyH_take (i := 1) (v := ?_) (by simp only [List.getElem?_toArray, List.getElem?_cons_succ, List.getElem?_cons_zero]; rfl) (by kernel_rfl) (by kernel_rfl) (by kernel_rfl) (by intro _ _ _ h; exact h) (Or.inl ⟨by rfl, ?_⟩) (by assumption) ?_
          rotate_left
          · intro w' hSw; (try dsimp only at hSw); go_simp; (try with_reducible rfl)
          try simp only [Act.put, List.setIfInBounds_toArray, List.set_cons_zero, List.set_cons_succ]
          refine wpAnyH_take (i := 4) (v := ?_) (by simp only [List.getElem?_toArray, List.getElem?_cons_succ, List.getElem?_cons_zero]; rfl) (by kernel_rfl) (by kernel_rfl) (by kernel_rfl) (by intro _ _ _ h; exact h) (Or.inl ⟨by rfl, ?_⟩) (by assumption) ?_
          rotate_left
          · intro w' hSw; (try dsimp only at hSw); go_simp; (try with_reducible rfl)
          try simp only [Act.put, List.setIfInBounds_toArray, List.set_cons_zero, List.set_cons_succ]
          refine wpAnyH_ready (rs := [2, 5]) (by kernel_rfl) (by simp) ?_
          refine AllReadyH.cons (by simp only [List.getElem?_toArray, List.getElem?_cons_succ, List.getElem?_cons_zero]; rfl) (fun K hK => ?_) (AllReadyH.cons (by simp only [List.getElem?_toArray, List.getElem?_cons_succ, List.getElem?_cons_zero]; rfl) (fun K hK => ?_) AllReadyH.nil)
          · go_simp
            refine hK.out _ _ trivial (fun hHeld => ?_)
            clear hK K
            try simp only [Act.put, List.setIfInBounds_toArray, List.set_cons_zero, List.set_cons_succ]
            refine wpAnyH_take (i := 3) (v := ?_) (by simp only [List.getElem?_toArray, List.getElem?_cons_succ, List.getElem?_cons_zero]; rfl) (by kernel_rfl) (by kernel_rfl) (by kernel_rfl) (by intro _ _ _ h; exact h) (Or.inl ⟨by rfl, ?_⟩) (by assumption) ?_
            rotate_left
            · intro w' hSw; (try dsimp only at hSw); go_simp; (try with_reducible rfl)
            try simp only [Act.put, List.setIfInBounds_toArray, List.set_cons_zero, List.set_cons_succ]
            refine wpAnyH_ready (rs := [5]) (by kernel_rfl) (by simp) ?_
            refine AllReadyH.cons (by simp only [List.getElem?_toArray, List.getElem?_cons_succ, List.getElem?_cons_zero]; rfl) (fun K hK => ?_) AllReadyH.nil
            go_simp
            refine hK.out _ _ trivial (fun hHeld => ?_)
            clear hK K
            try simp only [Act.put, List.setIfInBounds_toArray, List.set_cons_zero, List.set_cons_succ]
            refine wpAnyH_ready (rs := [6]) (by kernel_rfl) (by simp) ?_
            refine AllReadyH.cons (by simp only [List.getElem?_toArray, List.getElem?_cons_succ, List.getElem?_cons_zero]; rfl) (fun K hK => ?_) AllReadyH.nil
            have hOd := hid hOa.out.drew
            obtain ⟨cur, hcur, hcs⟩ : ∃ cur : Array Value, wa.drew.heap[g]? = some (.cells cur 5 (0, 0)) ∧ cur.size = cap := by
              rcases hOd.out.2 with ⟨h, _⟩ | ⟨g', cap', cur, h, -, hh, -, -, hs, -⟩
              · cases h
              · simp only [Value.slice.injEq, Option.some.injEq, Addr.mk.injEq, and_true, true_and] at h
                obtain ⟨rfl, rfl⟩ := h
                exact ⟨cur, hh, by rw [hs, Nat.mul_one]⟩
            have hcur' := hid hcur
            have hcl : cur.toList.length = cap := by simpa using hcs
            have hsrc := (hSI.out wa.drew (hBa.out.trans ((Below.refl _ _).drew.mono hBa.out.size)))
            refine step_copy_splice rfl _ _ 23 23 rfl 5 Try.underlying23 (by kernel_rfl) (some ⟨g, A, none⟩) so (n - A) (cap - A) l.length c (by show Value.slice _ _ _ = _; rw [if_neg (by omega)]) rfl g A cur.toList 5 (by rw [Array.toArray_toList]; exact hcur) (l.map (Value.int .u8)) (by rw [List.length_map]; have := hfA.out; exact (Nat.min_eq_left (by omega)).symm) (fun _ => ⟨rfl, ?_⟩) (by rw [List.length_map, hcl]; have := hfA.out; omega) (by simp [Value.oneCell']) w.heap.size w (hBa.out.trans ((Below.refl _ _).drew.mono hBa.out.size)) hg1 ?_
            · rcases hsrc.cell with h | ⟨sb, sof, h1, h2⟩
              · have := hfA.out; omega
              · refine ⟨_, h1, fun j v hj => ?_⟩
                rw [List.getElem?_map] at hj
                cases hlj : l[j]? with
                | none => rw [hlj] at hj; cases hj
                | some z =>
                  rw [hlj] at hj
                  simp only [Option.map_some, Option.some.injEq] at hj
                  subst hj
                  have hjl := (List.getElem?_eq_some_iff.1 hlj).1
                  have := h2 j hjl
                  rw [show (⟨sb, sof, none⟩ : Addr).add j = ⟨sb, sof + j, none⟩ by unfold Addr.add; split <;> simp_all, this]
                  simp [List.getD, hlj]
            intro w4 hg4 hb4
            have hO4 := hid (own_splice hOd.out hcur'.out (by have := hfA.out; omega) hg4.out)
            have hB4 := hid hb4
            clear hg4 hb4 hcur hcur' hOd hsrc
            refine hK.out _ _ trivial (fun hHeld => ?_)
            clear hK K
            try simp only [Act.put, List.setIfInBounds_toArray, List.set_cons_zero, List.set_cons_succ]
            refine wpAnyH_done (by kernel_rfl) ?_ _
            clear hd0 hd1
            go_wp2_with fail
            go_roundw
            case rel => exact ⟨k + 1, by omega, by go_num, by rw [hT1.out, mendR_append, h2.out]; exact hO4.out, hB4.out⟩
            case measure => simp [intOf]; omega
          · go_simp
            refine hK.out _ _ trivial (fun hHeld => ?_)
            clear hK K
            try simp only [Act.put, List.setIfInBounds_toArray, List.set_cons_zero, List.set_cons_succ]
            refine wpAnyH_ready (rs := [2]) (by kernel_rfl) (by simp) ?_
            refine AllReadyH.cons (by simp only [List.getElem?_toArray, List.getElem?_cons_succ, List.getElem?_cons_zero]; rfl) (fun K hK => ?_) AllReadyH.nil
            go_simp
            refine hK.out _ _ trivial (fun hHeld => ?_)
            clear hK K
            try simp only [Act.put, List.setIfInBounds_toArray, List.set_cons_zero, List.set_cons_succ]
            refine wpAnyH_take (i := 3) (v := ?_) (by simp only [List.getElem?_toArray, List.getElem?_cons_succ, List.getElem?_cons_zero]; rfl) (by kernel_rfl) (by kernel_rfl) (by kernel_rfl) (by intro _ _ _ h; exact h) (Or.inl ⟨by rfl, ?_⟩) (by assumption) ?_
            rotate_left
            · intro w' hSw; (try dsimp only at hSw); go_simp; (try with_reducible rfl)
            try simp only [Act.put, List.setIfInBounds_toArray, List.set_cons_zero, List.set_cons_succ]
            refine wpAnyH_ready (rs := [6]) (by kernel_rfl) (by simp) ?_
            refine AllReadyH.cons (by simp only [List.getElem?_toArray, List.getElem?_cons_succ, List.getElem?_cons_zero]; rfl) (fun K hK => ?_) AllReadyH.nil
            have hOd := hid hOa.out.drew
            obtain ⟨cur, hcur, hcs⟩ : ∃ cur : Array Value, wa.drew.heap[g]? = some (.cells cur 5 (0, 0)) ∧ cur.size = cap := by
              rcases hOd.out.2 with ⟨h, _⟩ | ⟨g', cap', cur, h, -, hh, -, -, hs, -⟩
              · cases h
              · simp only [Value.slice.injEq, Option.some.injEq, Addr.mk.injEq, and_true, true_and] at h
                obtain ⟨rfl, rfl⟩ := h
                exact ⟨cur, hh, by rw [hs, Nat.mul_one]⟩
            have hcur' := hid hcur
            have hcl : cur.toList.length = cap := by simpa using hcs
            have hsrc := (hSI.out wa.drew (hBa.out.trans ((Below.refl _ _).drew.mono hBa.out.size)))
            refine step_copy_splice rfl _ _ 23 23 rfl 5 Try.underlying23 (by kernel_rfl) (some ⟨g, A, none⟩) so (n - A) (cap - A) l.length c (by show Value.slice _ _ _ = _; rw [if_neg (by omega)]) rfl g A cur.toList 5 (by rw [Array.toArray_toList]; exact hcur) (l.map (Value.int .u8)) (by rw [List.length_map]; have := hfA.out; exact (Nat.min_eq_left (by omega)).symm) (fun _ => ⟨rfl, ?_⟩) (by rw [List.length_map, hcl]; have := hfA.out; omega) (by simp [Value.oneCell']) w.heap.size w (hBa.out.trans ((Below.refl _ _).drew.mono hBa.out.size)) hg1 ?_
            · rcases hsrc.cell with h | ⟨sb, sof, h1, h2⟩
              · have := hfA.out; omega
              · refine ⟨_, h1, fun j v hj => ?_⟩
                rw [List.getElem?_map] at hj
                cases hlj : l[j]? with
                | none => rw [hlj] at hj; cases hj
                | some z =>
                  rw [hlj] at hj
                  simp only [Option.map_some, Option.some.injEq] at hj
                  subst hj
                  have hjl := (List.getElem?_eq_some_iff.1 hlj).1
                  have := h2 j hjl
                  rw [show (⟨sb, sof, none⟩ : Addr).add j = ⟨sb, sof + j, none⟩ by unfold Addr.add; split <;> simp_all, this]
                  simp [List.getD, hlj]
            intro w4 hg4 hb4
            have hO4 := hid (own_splice hOd.out hcur'.out (by have := hfA.out; omega) hg4.out)
            have hB4 := hid hb4
            clear hg4 hb4 hcur hcur' hOd hsrc
            refine hK.out _ _ trivial (fun hHeld => ?_)
            clear hK K
            try simp only [Act.put, List.setIfInBounds_toArray, List.set_cons_zero, List.set_cons_succ]
            refine wpAnyH_done (by kernel_rfl) ?_ _
            clear hd0 hd1
            go_wp2_with fail
            go_roundw
            case rel => exact ⟨k + 1, by omega, by go_num, by rw [hT1.out, mendR_append, h2.out]; exact hO4.out, hB4.out⟩
            case measure => simp [intOf]; omega
        · obtain rfl : k = R.length := by omega
          have hO := hid (hA.out ▸ ho)
          clear ho
          go_wp2_with fail
          go_ret2
          exact ⟨.inl ⟨hOkA.out, v, rfl, hO.out⟩, hB.out⟩
end Go.Proofs.Ytdhicfolchpmhaa
