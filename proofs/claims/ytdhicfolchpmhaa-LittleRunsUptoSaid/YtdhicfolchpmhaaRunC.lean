/- Walks: Mend of the program, weight. -/
import Derived.Laws.CopyOwn
import Derived.Test.YtdhicfolchpmhaaRunA
import Derived.Test.YtdhicfolchpmhaaKitD
namespace Go.Proofs.Ytdhicfolchpmhaa
open Go.RowKit
set_option linter.unusedVariables false
set_option linter.unusedSimpArgs false

/-- runs that lie somewhere -/
structure Wrs (w : World) (ao : Option Addr) (R : List RunW) : Prop where
  ex : ∃ b off, (R.length = 0 ∨ ao = some ⟨b, off, none⟩) ∧ ∀ i (h : i < R.length), w.cell? ⟨b, off + i * 2, none⟩ = some (.int .u32 R[i].at_) ∧ w.cell? ⟨b, off + i * 2 + 1, none⟩ = some R[i].v
  ints : ∀ i (h : i < R.length), ∃ so c, R[i].v = .slice so R[i].l.length c ∧ Ints .u8 w so R[i].l
  bat : ∀ i (h : i < R.length), R[i].at_ ≤ 4294967295
  bl : ∀ i (h : i < R.length), R[i].l.length ≤ 100000000
theorem Wrs.mono {w w' : World} {ao : Option Addr} {R : List RunW} (h : Wrs w ao R) (hb : Below w.heap.size w w') : Wrs w' ao R := by
  obtain ⟨⟨b, off, h1, h2⟩, h3, h4, h5⟩ := h
  refine ⟨⟨b, off, h1, fun i hi => ⟨(hb.cell (World.block_lt_of_cell? w _ (h2 i hi).1)).trans (h2 i hi).1, (hb.cell (World.block_lt_of_cell? w _ (h2 i hi).2)).trans (h2 i hi).2⟩⟩, fun i hi => ?_, h4, h5⟩
  obtain ⟨so, c, e1, e2⟩ := h3 i hi
  exact ⟨so, c, e1, e2.mono hb⟩

theorem own_splice {w w' : World} {B g n cap off : Nat} {b l : List Int} {cur : Array Value} (h : w.ownsRow B 5 1 (.slice (some ⟨g, 0, none⟩) n cap) n (b.map (Value.int .u8))) (hg : w.heap[g]? = some (.cells cur 5 (0, 0))) (hfit : off + l.length ≤ n)
    (h' : w'.heap[g]? = some (.cells (splice cur.toList off (l.map (Value.int .u8))).toArray 5 (0, 0))) : w'.ownsRow B 5 1 (.slice (some ⟨g, 0, none⟩) n cap) n ((laid b off l).map (Value.int .u8)) := by
  obtain ⟨h1, h2⟩ := h
  simp only [List.length_map, Nat.mul_one] at h1
  rcases h2 with ⟨hv, _⟩ | ⟨g', cap', cur', hv, hg', hh, a, d, c, e⟩
  · cases hv
  · simp only [Value.slice.injEq, Option.some.injEq, Addr.mk.injEq, and_true, true_and] at hv
    obtain ⟨rfl, rfl⟩ := hv
    rw [hg] at hh
    simp only [Option.some.injEq, Obj.cells.injEq, and_true] at hh
    subst hh
    rw [Nat.mul_one] at c e
    have hcl : cur.toList.length = cap := by simpa using c
    refine ⟨by rw [List.length_map, laid_len _ _ _ (by omega)]; omega, .inr ⟨g, cap, _, rfl, hg', h', a, d, ?_, ?_⟩⟩
    · rw [List.size_toArray, length_splice _ _ _ (by rw [List.length_map, hcl]; omega), hcl, Nat.mul_one]
    · rw [Nat.mul_one]
      simp only [splice, laid, List.map_append, List.map_take, List.map_drop, ← e, List.length_map, List.append_assoc]
      rw [List.take_append, List.take_append, List.take_take, List.length_take, List.length_map, List.take_take, List.drop_take]
      rw [show min n off = off by omega, show min off n = off by omega, hcl, show min off cap = off by omega, List.take_of_length_le (show (List.map (Value.int IntKind.u8) l).length ≤ n - off by rw [List.length_map]; omega), show n - off - l.length = n - (off + l.length) by omega]

theorem okR_cons_false {n a : Nat} {r : Nat × List Int} {rs : Runz} (h : ¬ (0 < r.2.length ∧ a ≤ r.1 ∧ r.1 + r.2.length ≤ n)) : okR n a (r :: rs) = false := by
  obtain ⟨s, l⟩ := r
  simp only [okR]
  by_cases h1 : 0 < l.length
  · by_cases h2 : a ≤ s
    · by_cases h3 : s + l.length ≤ n
      · exact absurd ⟨h1, h2, h3⟩ h
      · simp [h3]
    · simp [h2]
  · simp [h1]
theorem okR_one {n a : Nat} {r : Nat × List Int} (h : 0 < r.2.length ∧ a ≤ r.1 ∧ r.1 + r.2.length ≤ n) : okR n a [r] = true := by
  obtain ⟨s, l⟩ := r
  simp only [okR]
  simp [h.2.1, h.2.2]
  simpa using h.1
theorem take_two (R : List RunW) (k : Nat) (h : k < R.length) : (R.map RunW.two).take (k + 1) = (R.map RunW.two).take k ++ [R[k].two] := by
  rw [List.take_add_one, List.getElem?_map, List.getElem?_eq_getElem h]; rfl
theorem drop_two (R : List RunW) (k : Nat) (h : k < R.length) : R.map RunW.two = (R.map RunW.two).take k ++ R[k].two :: (R.map RunW.two).drop (k + 1) := by
  have e : (R.map RunW.two).drop k = R[k].two :: (R.map RunW.two).drop (k + 1) := by
    rw [List.drop_eq_getElem_cons (by simpa using h), List.getElem_map]
  rw [← e, List.take_append_drop]
theorem endR_bd {n : Nat} : ∀ (rs : Runz) (a : Nat), a ≤ n → okR n a rs = true → endR a rs ≤ n
  | [], a, ha, _ => ha
  | (s, l) :: rs, a, ha, h => by
    simp only [okR, Bool.and_eq_true, decide_eq_true_eq] at h
    exact endR_bd rs (s + l.length) h.1.2 h.2
theorem weigh_take (R : List RunW) (k : Nat) (h : k < R.length) : weigh ((R.map RunW.two).take (k + 1)) = weigh ((R.map RunW.two).take k) + R[k].l.length := by
  rw [take_two R k h, weigh_append]; simp [weigh, RunW.two]

set_option maxHeartbeats 1000000 in
theorem runsNo55 (ao bo : Option Addr) (n m c1 c2 : Nat) (w : World) (hne : n ≠ m) :
    Calls Try.prog 55 #[.slice ao n c1, .slice bo m c2] w fun e w' => e = .returned (.tuple #[.slice none 0 0, .int .i64 22]) ∧ w = w' := by
  have hq : ((n : Int) != (m : Int)) = true := by simp; omega
  clear hne
  go_enter Try.func55, Try.ntmps55
  go_wp2_with fail
  go_step3
  go_wp2_with fail
  (try rw [Exit.noGoto_ret])
  go_ret2
  exact ⟨rfl, rfl⟩

set_option maxHeartbeats 1000000 in
theorem weight58 (ro : Option Addr) (rc : Nat) (R : List RunW) (w : World) (hR : R.length ≤ 100000000) (hr : Wrs w ro R) :
    Calls Try.prog 58 #[.slice ro R.length rc] w fun e w' => e = .returned (.int .i64 (weigh (R.map RunW.two))) ∧ w = w' := by
  obtain ⟨⟨b, off, hro, hc⟩, hi, -, hl⟩ := hr
  have hC := hid hc
  have hI := hid hi
  have hL := hid hl
  have hT := hid (weigh_take R)
  have hA : Hid ((R.map RunW.two).take R.length = R.map RunW.two) := List.take_of_length_le (by simp)
  have hbd : Hid (∀ k, k ≤ R.length → weigh ((R.map RunW.two).take k) ≤ k * 100000000) := fun k => by
    induction k with
    | zero => intro _; simp [weigh]
    | succ k ih =>
      intro hk
      rw [hT.out k (by omega)]
      have := ih (by omega)
      have := hL.out k (by omega)
      omega
  clear hc hi hl
  go_enter Try.func58, Try.ntmps58
  go_wp2_with fail
  go_loopw [3, 4] (fun s i wr => ∃ k : Nat, k ≤ R.length ∧ s = .int .i64 (weigh ((R.map RunW.two).take k)) ∧ i = .int .i64 k ∧ w = wr) (fun _ i _ => R.length - (intOf i).toNat)
  case atStart => exact ⟨0, Nat.zero_le _, by simp [weigh], rfl, rfl⟩
  case round =>
    obtain ⟨k, hk, rfl, rfl, rfl⟩ := hrel
    by_cases hlt : k < R.length
    · rcases hro with h0 | rfl
      · omega
      have hc1 := (hC.out k hlt).2
      obtain ⟨so, c, hv, -⟩ := hI.out k hlt
      rw [hv] at hc1
      have hb1 := hbd.out k hk
      have hb2 := hL.out k hlt
      have hT1 := hid (hT.out k hlt)
      clear hv
      generalize R[k].l.length = L at *
      generalize weigh ((R.map RunW.two).take k) = W at *
      have hb3 : W ≤ 10000000000000000 := by
        have := Nat.mul_le_mul_right 100000000 hk
        have := Nat.mul_le_mul_right 100000000 hR
        omega
      clear hb1
      go_wp2_with fail
      go_roundw
      case rel => exact ⟨k + 1, by omega, by rw [hT1.out]; go_num, by go_num, trivial⟩
      case measure => simp [intOf]; omega
    · obtain rfl : k = R.length := by omega
      go_wp2_with fail
      go_ret
      refine ⟨?_, rfl⟩
      (try rw [hA.out])
      rfl
set_option maxHeartbeats 2000000 in
set_option maxRecDepth 100000 in
theorem mend52 (ao : Option Addr) (n c1 : Nat) (x : List Int) (ro : Option Addr) (rc : Nat) (R : List RunW) (w : World) (hx : n = x.length) (hn : n ≤ 100000000) (hR : R.length ≤ 100000000) (hi : Ints .u8 w ao x) (hr : Wrs w ro R) :
    Calls Try.prog 52 #[.slice ao n c1, .slice ro R.length rc] w fun e w' => ((okR n 0 (R.map RunW.two) = true ∧ ∃ v, e = .returned (.tuple #[v, .int .i64 0]) ∧ w'.ownsRow w.heap.size 5 1 v n ((mendR x (R.map RunW.two)).map (Value.int .u8))) ∨ (okR n 0 (R.map RunW.two) = false ∧ e = .returned (.tuple #[.slice none 0 0, .int .i64 23]))) ∧ Below w.heap.size w w' := by
  obtain ⟨⟨b, off, hro, hc⟩, hin, hba, hl⟩ := hr
  have hC := hid (fun W (hW : Below w.heap.size w W) i (h : i < R.length) => And.intro ((hW.cell (World.block_lt_of_cell? w _ (hc i h).1)).trans (hc i h).1) ((hW.cell (World.block_lt_of_cell? w _ (hc i h).2)).trans (hc i h).2))
  have hI : Hid (∀ i (h : i < R.length), ∃ so c, R[i].v = .slice so R[i].l.length c ∧ ∀ W, Below w.heap.size w W → Ints .u8 W so R[i].l) := fun i h => by
    obtain ⟨so, c, h1, h2⟩ := hin i h
    exact ⟨so, c, h1, fun W hW => h2.mono hW⟩
  have hL := hid hl
  have hBA := hid hba
  have hA : Hid ((R.map RunW.two).take R.length = R.map RunW.two) := List.take_of_length_le (by simp)
  have hT := hid (take_two R)
  have hD := hid (drop_two R)
  have hXI := hid hi
  have hX := hid hx
  clear hc hin hl hba hi hx
  go_enter Try.func52, Try.ntmps52
  go_wp2_with fail
  go_loopw [6, 15] (fun la i wr => ∃ (k e : Nat), k ≤ R.length ∧ i = .int .i64 k ∧ la = .int .i64 e ∧ e ≤ n ∧ e = endR 0 ((R.map RunW.two).take k) ∧ okR n 0 ((R.map RunW.two).take k) = true ∧ Below w.heap.size w wr) (fun _ i _ => R.length - (intOf i).toNat)
  case atStart => exact ⟨0, 0, Nat.zero_le _, rfl, rfl, Nat.zero_le _, by simp [endR], by simp [okR], Below.refl _ _⟩
  case round =>
    obtain ⟨k, e, hk, rfl, rfl, hen, he, hok, hb⟩ := hrel
    have hE := hid he
    have hOk := hid hok
    have hB := hid hb
    clear he hok hb
    by_cases hlt : k < R.length
    · rcases hro with h0 | rfl
      · omega
      have hc1 := (hC.out wr hB.out k hlt).1
      have hc2 := (hC.out wr hB.out k hlt).2
      obtain ⟨so, c, hv, -⟩ := hI.out k hlt
      rw [hv] at hc2
      have hl1 := hL.out k hlt
      have ha1 := hBA.out k hlt
      have hD1 := hid (hD.out k hlt)
      have hT1 := hid (hT.out k hlt)
      have h2 : Hid (R[k].two = (R[k].at_, R[k].l)) := rfl
      clear hv
      generalize R[k].two = r at *
      generalize R[k].at_ = A at *
      obtain ⟨L, hLL⟩ : ∃ L, L = R[k].l.length := ⟨_, rfl⟩
      have hLe := hid hLL
      rw [← hLL] at hc2 hl1
      clear hLL
      have hw1 : IntKind.i64.wrap (A : Int) = A := IntWalk.i64_in _ (by omega)
      have hw2 : IntKind.i64.wrap ((n : Int) - L) = (n : Int) - L := IntWalk.i64_in _ (by omega)
      have hw3 : IntKind.i64.wrap ((A : Int) + L) = (A : Int) + L := IntWalk.i64_in _ (by omega)
      have hbw := hid (hB.out.alloc hB.out.size (.cells #[.int .u32 A, .slice so L c] 104))
      have hbad : Hid (¬ (0 < L ∧ e ≤ A ∧ A + L ≤ n) → okR n 0 (R.map RunW.two) = false) := fun h => by
        rw [hD1.out, okR_append, hOk.out, ← hE.out, Bool.true_and]
        refine okR_cons_false ?_
        rw [h2.out, ← hLe.out]
        exact h
      by_cases hL0 : L = 0
      · subst hL0
        have hbad' := hid (hbad.out (by omega))
        clear hbad hw2 hw3
        go_wp2_with fail
        go_ret2
        exact ⟨.inr ⟨hbad'.out, rfl⟩, hbw.out⟩
      · have hq1 : ((L : Int) == 0) = false := by simp [hL0]
        have hq1' : ((L : Int) = 0) = False := eq_false (by omega)
        by_cases hA0 : A < e
        · have hbad' := hid (hbad.out (by omega))
          have hq2 : ((A : Int) < (e : Int)) = True := eq_true (by omega)
          clear hbad hL0 hw2 hw3
          go_wp2_with fail
          go_ret2
          exact ⟨.inr ⟨hbad'.out, rfl⟩, hbw.out⟩
        · have hq2 : ((A : Int) < (e : Int)) = False := eq_false (by omega)
          by_cases hA1 : n < A + L
          · have hbad' := hid (hbad.out (by omega))
            have hq3 : ((n : Int) - L < (A : Int)) = True := eq_true (by omega)
            clear hbad hL0 hA0 hw3
            go_wp2_with fail
            go_ret2
            exact ⟨.inr ⟨hbad'.out, rfl⟩, hbw.out⟩
          · have hq3 : ((n : Int) - L < (A : Int)) = False := eq_false (by omega)
            have hgood : Hid (0 < r.2.length ∧ endR 0 ((R.map RunW.two).take k) ≤ r.1 ∧ r.1 + r.2.length ≤ n) := by
              rw [h2.out, ← hE.out]
              show 0 < R[k].l.length ∧ e ≤ A ∧ A + R[k].l.length ≤ n
              rw [← hLe.out]
              omega
            have hfit : Hid (A + L ≤ n) := by unfold Hid; omega
            clear hbad hL0 hA0 hA1
            go_wp2_with fail
            go_roundw
            case rel => exact ⟨k + 1, A + L, by omega, by go_num, by go_num, hfit.out, by rw [hT1.out, endR_append, h2.out]; simp [endR, hLe.out], by rw [hT1.out, okR_append, hOk.out, Bool.true_and]; exact okR_one hgood.out, hbw.out⟩
            case measure => simp [intOf]; omega
    · obtain rfl : k = R.length := by omega
      have hOkA := hid (hA.out ▸ hOk.out)
      clear hE hOk hlt
      go_wp2_with fail
      have h86 := clone_any ao n c1 x wr hX.out (by rw [← hX.out]; omega) (hXI.out.mono hB.out)
      refine h86.mono ?_
      clear h86
      rintro e2 w2 ⟨v, rfl, ho, hb2⟩
      have hO := hid (own_base ho hB.out.size)
      have hB2 := hid (hB.out.trans (hb2.mono hB.out.size))
      clear ho hb2 hB
      go_wp2_with fail
      go_loopw [51] (fun i wr => ∃ k : Nat, k ≤ R.length ∧ i = .int .i64 k ∧ wr.ownsRow w.heap.size 5 1 v n ((mendR x ((R.map RunW.two).take k)).map (Value.int .u8)) ∧ Below w.heap.size w wr) (fun i _ => R.length - (intOf i).toNat)
      case atStart => exact ⟨0, Nat.zero_le _, rfl, by simpa [mendR] using hO.out, hB2.out⟩
      case round =>
        clear hO hB2
        obtain ⟨k, hk, rfl, ho, hb⟩ := hrel
        have hB := hid hb
        have hsz := hb.size
        clear hb
        by_cases hlt : k < R.length
        · rcases hro with h0 | rfl
          · omega
          have hfit : Hid (0 < R[k].l.length ∧ R[k].at_ + R[k].l.length ≤ n) := by
            have h1 := hOkA.out
            rw [hD.out k hlt, okR_append, Bool.and_eq_true] at h1
            have h2 := h1.2
            simp only [RunW.two, okR, Bool.and_eq_true, decide_eq_true_eq] at h2
            exact ⟨of_decide_eq_true h2.1.1.1, of_decide_eq_true h2.1.2⟩
          obtain ⟨g, cap, hv, hg1, hg2, hnc, -⟩ := own_shape ho (by have := hfit.out; omega)
          subst hv
          have hO := hid ho
          clear ho
          have hc1 := (hC.out wr hB.out k hlt).1
          have hc2 := (hC.out wr hB.out k hlt).2
          obtain ⟨so, c, hv, hsi⟩ := hI.out k hlt
          rw [hv] at hc2
          have hSI := hid hsi
          have hT1 := hid (hT.out k hlt)
          have h2 : Hid (R[k].two = (R[k].at_, R[k].l)) := rfl
          clear hv hsi
          generalize R[k].two = r at *
          generalize R[k].at_ = A at *
          generalize R[k].l = l at *
          have hfA := hid hfit.out
          have hx1 : (A : Int) ≤ (n : Int) := by have := hfit.out; omega
          have hx2 : (A : Int) < (cap : Int) := by have := hfit.out; omega
          have hx3 : (A : Int) ≤ (cap : Int) := by omega
          have hx4 : (n : Int) ≤ (cap : Int) := by omega
          have hw1 : IntKind.i64.wrap (A : Int) = A := IntWalk.i64_in _ (by omega)
          obtain ⟨wa, hwa⟩ : ∃ wa, wa = wr.alloc (.cells #[.int .u32 A, .slice so l.length c] 104) := ⟨_, rfl⟩
          have hOa := hid (hO.out.alloc (.cells #[.int .u32 A, .slice so l.length c] 104))
          have hBa := hid (hB.out.alloc hB.out.size (.cells #[.int .u32 A, .slice so l.length c] 104))
          have hq0 : Hid ((wr.alloc (.cells #[.int .u32 A, .slice so l.length c] 104)).cell? ⟨wr.heap.size, 0, none⟩ = some (.int .u32 A)) := by unfold Hid; simp
          have hq1 : Hid ((wr.alloc (.cells #[.int .u32 A, .slice so l.length c] 104)).cell? ⟨wr.heap.size, 1, none⟩ = some (.slice so l.length c)) := by unfold Hid; simp
          rw [← hwa] at hOa hBa hq0 hq1
          obtain ⟨q, hq⟩ : ∃ q, q = wr.heap.size := ⟨_, rfl⟩
          rw [← hq] at hq0 hq1
          go_wp2_with fail
          rw [← hwa, ← hq]
          clear hwa hq hO hB hc1 hc2
          have hd0 := hq0.out
          have hd1 := hq1.out
          go_wp2_with fail
          refine wp_region_held_drew (S := fun _ => True) (by kernel_rfl) trivial (fun hHeld => ?_)
          refine wpAnyH_take (i := 0) (v := ?_) (by simp only [List.getElem?_toArray, List.getElem?_cons_succ, List.getElem?_cons_zero]; rfl) (by kernel_rfl) (by kernel_rfl) (by kernel_rfl) (by intro _ _ _ h; exact h) (Or.inl ⟨by rfl, ?_⟩) (by assumption) ?_
          rotate_left
          · intro w' hSw; (try dsimp only at hSw); go_simp; (try with_reducible rfl)
          try simp only [Act.put, List.setIfInBounds_toArray, List.set_cons_zero, List.set_cons_succ]
          refine wpAnyH_take (i := 1) (v := ?_) (by simp only [List.getElem?_toArray, List.getElem?_cons_succ, List.getElem?_cons_zero]; rfl) (by kernel_rfl) (by kernel_rfl) (by kernel_rfl) (by intro _ _ _ h; exact h) (Or.inl ⟨by rfl, ?_⟩) (by assumption) ?_
          rotate_left
          · intro w' hSw; (try dsimp only at hSw); go_simp; (try with_reducible rfl)
          try simp only [Act.put, List.setIfInBounds_toArray, List.set_cons_zero, List.set_cons_succ]
          refine wpAnyH_take (i := 4) (v := ?_) (by simp only [List.getElem?_toArray, List.getElem?_cons_succ, List.getElem?_cons_zero]; rfl) (by kernel_rfl) (by kernel_rfl) (by kernel_rfl) (by intro _ _ _ h; exact h) (Or.inl ⟨by rfl, ?_⟩) (by assumption) ?_
          rotate_left
          · intro w' hSw; (try dsimp only at hSw); go_simp; (try with_reducible rfl)
          try simp only [Act.put, List.setIfInBounds_toArray, List.set_cons_zero, List.set_cons_succ]
          refine wpAnyH_ready (rs := [2, 5]) (by kernel_rfl) (by simp) ?_
          refine AllReadyH.cons (by simp only [List.getElem?_toArray, List.getElem?_cons_succ, List.getElem?_cons_zero]; rfl) (fun K hK => ?_) (AllReadyH.cons (by simp only [List.getElem?_toArray, List.getElem?_cons_succ, List.getElem?_cons_zero]; rfl) (fun K hK => ?_) AllReadyH.nil)
          · go_simp
            refine hK.out _ _ trivial (fun hHeld => ?_)
            clear hK K
            try simp only [Act.put, List.setIfInBounds_toArray, List.set_cons_zero, List.set_cons_succ]
            refine wpAnyH_take (i := 3) (v := ?_) (by simp only [List.getElem?_toArray, List.getElem?_cons_succ, List.getElem?_cons_zero]; rfl) (by kernel_rfl) (by kernel_rfl) (by kernel_rfl) (by intro _ _ _ h; exact h) (Or.inl ⟨by rfl, ?_⟩) (by assumption) ?_
            rotate_left
            · intro w' hSw; (try dsimp only at hSw); go_simp; (try with_reducible rfl)
            try simp only [Act.put, List.setIfInBounds_toArray, List.set_cons_zero, List.set_cons_succ]
            refine wpAnyH_ready (rs := [5]) (by kernel_rfl) (by simp) ?_
            refine AllReadyH.cons (by simp only [List.getElem?_toArray, List.getElem?_cons_succ, List.getElem?_cons_zero]; rfl) (fun K hK => ?_) AllReadyH.nil
            go_simp
            refine hK.out _ _ trivial (fun hHeld => ?_)
            clear hK K
            try simp only [Act.put, List.setIfInBounds_toArray, List.set_cons_zero, List.set_cons_succ]
            refine wpAnyH_ready (rs := [6]) (by kernel_rfl) (by simp) ?_
            refine AllReadyH.cons (by simp only [List.getElem?_toArray, List.getElem?_cons_succ, List.getElem?_cons_zero]; rfl) (fun K hK => ?_) AllReadyH.nil
            have hOd := hid hOa.out.drew
            obtain ⟨cur, hcur, hcs⟩ : ∃ cur : Array Value, wa.drew.heap[g]? = some (.cells cur 5 (0, 0)) ∧ cur.size = cap := by
              rcases hOd.out.2 with ⟨h, _⟩ | ⟨g', cap', cur, h, -, hh, -, -, hs, -⟩
              · cases h
              · simp only [Value.slice.injEq, Option.some.injEq, Addr.mk.injEq, and_true, true_and] at h
                obtain ⟨rfl, rfl⟩ := h
                exact ⟨cur, hh, by rw [hs, Nat.mul_one]⟩
            have hcur' := hid hcur
            have hcl : cur.toList.length = cap := by simpa using hcs
            have hsrc := (hSI.out wa.drew (hBa.out.trans ((Below.refl _ _).drew.mono hBa.out.size)))
            refine step_copy_splice rfl _ _ 23 23 rfl 5 Try.underlying23 (by kernel_rfl) (some ⟨g, A, none⟩) so (n - A) (cap - A) l.length c (by show Value.slice _ _ _ = _; rw [if_neg (by omega)]) rfl g A cur.toList 5 (by rw [Array.toArray_toList]; exact hcur) (l.map (Value.int .u8)) (by rw [List.length_map]; have := hfA.out; exact (Nat.min_eq_left (by omega)).symm) (fun _ => ⟨rfl, ?_⟩) (by rw [List.length_map, hcl]; have := hfA.out; omega) (by simp [Value.oneCell']) w.heap.size w (hBa.out.trans ((Below.refl _ _).drew.mono hBa.out.size)) hg1 ?_
            · rcases hsrc.cell with h | ⟨sb, sof, h1, h2⟩
              · have := hfA.out; omega
              · refine ⟨_, h1, fun j v hj => ?_⟩
                rw [List.getElem?_map] at hj
                cases hlj : l[j]? with
                | none => rw [hlj] at hj; cases hj
                | some z =>
                  rw [hlj] at hj
                  simp only [Option.map_some, Option.some.injEq] at hj
                  subst hj
                  have hjl := (List.getElem?_eq_some_iff.1 hlj).1
                  have := h2 j hjl
                  rw [show (⟨sb, sof, none⟩ : Addr).add j = ⟨sb, sof + j, none⟩ by unfold Addr.add; split <;> simp_all, this]
                  simp [List.getD, hlj]
            intro w4 hg4 hb4
            have hO4 := hid (own_splice hOd.out hcur'.out (by have := hfA.out; omega) hg4.out)
            have hB4 := hid hb4
            clear hg4 hb4 hcur hcur' hOd hsrc
            refine hK.out _ _ trivial (fun hHeld => ?_)
            clear hK K
            try simp only [Act.put, List.setIfInBounds_toArray, List.set_cons_zero, List.set_cons_succ]
            refine wpAnyH_done (by kernel_rfl) ?_ _
            clear hd0 hd1
            go_wp2_with fail
            go_roundw
            case rel => exact ⟨k + 1, by omega, by go_num, by rw [hT1.out, mendR_append, h2.out]; exact hO4.out, hB4.out⟩
            case measure => simp [intOf]; omega
          · go_simp
            refine hK.out _ _ trivial (fun hHeld => ?_)
            clear hK K
            try simp only [Act.put, List.setIfInBounds_toArray, List.set_cons_zero, List.set_cons_succ]
            refine wpAnyH_ready (rs := [2]) (by kernel_rfl) (by simp) ?_
            refine AllReadyH.cons (by simp only [List.getElem?_toArray, List.getElem?_cons_succ, List.getElem?_cons_zero]; rfl) (fun K hK => ?_) AllReadyH.nil
            go_simp
            refine hK.out _ _ trivial (fun hHeld => ?_)
            clear hK K
            try simp only [Act.put, List.setIfInBounds_toArray, List.set_cons_zero, List.set_cons_succ]
            refine wpAnyH_take (i := 3) (v := ?_) (by simp only [List.getElem?_toArray, List.getElem?_cons_succ, List.getElem?_cons_zero]; rfl) (by kernel_rfl) (by kernel_rfl) (by kernel_rfl) (by intro _ _ _ h; exact h) (Or.inl ⟨by rfl, ?_⟩) (by assumption) ?_
            rotate_left
            · intro w' hSw; (try dsimp only at hSw); go_simp; (try with_reducible rfl)
            try simp only [Act.put, List.setIfInBounds_toArray, List.set_cons_zero, List.set_cons_succ]
            refine wpAnyH_ready (rs := [6]) (by kernel_rfl) (by simp) ?_
            refine AllReadyH.cons (by simp only [List.getElem?_toArray, List.getElem?_cons_succ, List.getElem?_cons_zero]; rfl) (fun K hK => ?_) AllReadyH.nil
            have hOd := hid hOa.out.drew
            obtain ⟨cur, hcur, hcs⟩ : ∃ cur : Array Value, wa.drew.heap[g]? = some (.cells cur 5 (0, 0)) ∧ cur.size = cap := by
              rcases hOd.out.2 with ⟨h, _⟩ | ⟨g', cap', cur, h, -, hh, -, -, hs, -⟩
              · cases h
              · simp only [Value.slice.injEq, Option.some.injEq, Addr.mk.injEq, and_true, true_and] at h
                obtain ⟨rfl, rfl⟩ := h
                exact ⟨cur, hh, by rw [hs, Nat.mul_one]⟩
            have hcur' := hid hcur
            have hcl : cur.toList.length = cap := by simpa using hcs
            have hsrc := (hSI.out wa.drew (hBa.out.trans ((Below.refl _ _).drew.mono hBa.out.size)))
            refine step_copy_splice rfl _ _ 23 23 rfl 5 Try.underlying23 (by kernel_rfl) (some ⟨g, A, none⟩) so (n - A) (cap - A) l.length c (by show Value.slice _ _ _ = _; rw [if_neg (by omega)]) rfl g A cur.toList 5 (by rw [Array.toArray_toList]; exact hcur) (l.map (Value.int .u8)) (by rw [List.length_map]; have := hfA.out; exact (Nat.min_eq_left (by omega)).symm) (fun _ => ⟨rfl, ?_⟩) (by rw [List.length_map, hcl]; have := hfA.out; omega) (by simp [Value.oneCell']) w.heap.size w (hBa.out.trans ((Below.refl _ _).drew.mono hBa.out.size)) hg1 ?_
            · rcases hsrc.cell with h | ⟨sb, sof, h1, h2⟩
              · have := hfA.out; omega
              · refine ⟨_, h1, fun j v hj => ?_⟩
                rw [List.getElem?_map] at hj
                cases hlj : l[j]? with
                | none => rw [hlj] at hj; cases hj
                | some z =>
                  rw [hlj] at hj
                  simp only [Option.map_some, Option.some.injEq] at hj
                  subst hj
                  have hjl := (List.getElem?_eq_some_iff.1 hlj).1
                  have := h2 j hjl
                  rw [show (⟨sb, sof, none⟩ : Addr).add j = ⟨sb, sof + j, none⟩ by unfold Addr.add; split <;> simp_all, this]
                  simp [List.getD, hlj]
            intro w4 hg4 hb4
            have hO4 := hid (own_splice hOd.out hcur'.out (by have := hfA.out; omega) hg4.out)
            have hB4 := hid hb4
            clear hg4 hb4 hcur hcur' hOd hsrc
            refine hK.out _ _ trivial (fun hHeld => ?_)
            clear hK K
            try simp only [Act.put, List.setIfInBounds_toArray, List.set_cons_zero, List.set_cons_succ]
            refine wpAnyH_done (by kernel_rfl) ?_ _
            clear hd0 hd1
            go_wp2_with fail
            go_roundw
            case rel => exact ⟨k + 1, by omega, by go_num, by rw [hT1.out, mendR_append, h2.out]; exact hO4.out, hB4.out⟩
            case measure => simp [intOf]; omega
        · obtain rfl : k = R.length := by omega
          have hO := hid (hA.out ▸ ho)
          clear ho
          go_wp2_with fail
          go_ret2
          exact ⟨.inl ⟨hOkA.out, v, rfl, hO.out⟩, hB.out⟩
end Go.Proofs.Ytdhicfolchpmhaa

namespace Go.Proofs.Ytdhicfolchpmhaa
open Go.RowKit
set_option linter.unusedVariables false
set_option linter.unusedSimpArgs false

set_option maxHeartbeats 1000000 in
theorem runsNo54 (ao bo : Option Addr) (n m c1 c2 : Nat) (w : World) (hne : n ≠ m) :
    Calls Try.prog 54 #[.slice ao n c1, .slice bo m c2] w fun e w' => e = .returned (.tuple #[.slice none 0 0, .int .i64 22]) ∧ w = w' := by
  have hq : ((n : Int) != (m : Int)) = true := by simp; omega
  clear hne
  go_enter Try.func54, Try.ntmps54
  go_wp2_with fail
  go_ret2
  exact ⟨rfl, rfl⟩

set_option maxHeartbeats 1000000 in
/-- two lists of runs that say the same -/
theorem same56 (ro so : Option Addr) (rc sc : Nat) (R S : List RunW) (w : World) (hl : R.length = S.length) (hR : R.length ≤ 100000000) (hr : Wrs w ro R) (hs : Wrs w so S) (hsame : ∀ i (h : i < R.length) (h' : i < S.length), R[i].at_ = S[i].at_ ∧ R[i].l = S[i].l) :
    Calls Try.prog 56 #[.slice ro R.length rc, .slice so S.length sc] w fun e w' => e = .returned (.bool true) ∧ ∃ q, w' = w.drewN q := by
  obtain ⟨⟨b1, o1, hro, hc1⟩, hi1, -, hl1⟩ := hr
  obtain ⟨⟨b2, o2, hso, hc2⟩, hi2, -, hl2⟩ := hs
  have hC1 := hid hc1
  have hC2 := hid hc2
  have hI1 := hid hi1
  have hI2 := hid hi2
  have hL1 := hid hl1
  have hSm := hid hsame
  have hLe := hid hl
  clear hc1 hc2 hi1 hi2 hl1 hl2 hsame
  rw [← hl]
  clear hl
  go_enter Try.func56, Try.ntmps56
  go_wp2_with fail
  go_loopw [5] (fun i wr => ∃ k q : Nat, k ≤ R.length ∧ i = .int .i64 k ∧ wr = w.drewN q) (fun i _ => R.length - (intOf i).toNat)
  case atStart => exact ⟨0, 0, Nat.zero_le _, rfl, rfl⟩
  case round =>
    obtain ⟨k, q, hk, rfl, rfl⟩ := hrel
    by_cases hlt : k < R.length
    · rcases hro with h0 | rfl
      · omega
      rcases hso with h0 | rfl
      · have := hLe.out; omega
      have hlt' : k < S.length := by have := hLe.out; omega
      have d1 := (hC1.out k hlt).1
      have d2 := (hC1.out k hlt).2
      have d3 := (hC2.out k hlt').1
      have d4 := (hC2.out k hlt').2
      obtain ⟨so1, c1, hv1, hI3⟩ := hI1.out k hlt
      obtain ⟨so2, c2, hv2, hI4⟩ := hI2.out k hlt'
      rw [hv1] at d2
      rw [hv2] at d4
      obtain ⟨e1, e2⟩ := hSm.out k hlt hlt'
      rw [← e1] at d3
      rw [← e2] at d4 hI4
      have hll := hL1.out k hlt
      clear hv1 hv2 e1 e2
      have h5 := hid hI3
      have h6 := hid hI4
      clear hI3 hI4
      generalize R[k].at_ = A at *
      generalize R[k].l = l at *
      have hs := hid (fun m => by have := same_any so1 l.length c1 l so2 l.length c2 l ((w.drewN q).drewN m) rfl rfl (by omega) ((h5.out.drewN q).drewN m) ((h6.out.drewN q).drewN m); rw [show decide (l = l) = true from decide_eq_true rfl] at this; exact this)
      have d1' : (w.drewN q).cell? ⟨b1, o1 + k * 2, none⟩ = some (.int .u32 A) := by simpa using d1
      have d2' : (w.drewN q).cell? ⟨b1, o1 + k * 2 + 1, none⟩ = some (.slice so1 l.length c1) := by simpa using d2
      have d3' : (w.drewN q).cell? ⟨b2, o2 + k * 2, none⟩ = some (.int .u32 A) := by simpa using d3
      have d4' : (w.drewN q).cell? ⟨b2, o2 + k * 2 + 1, none⟩ = some (.slice so2 l.length c2) := by simpa using d4
      have hgq : ∀ m, (w.drewN q).drewN m = w.drewN (q + m) := fun m => by simp
      have hGQ := hid hgq
      clear d1 d2 d3 d4 hgq
      generalize w.drewN q = wz at *
      go_wp2_with fail
      go_quiet ((go_at_call 27; exact Calls.quiet_of (hs.out _)))
      go_wp2_with fail
      go_roundw
      case rel => exact ⟨k + 1, q + nq, by omega, by go_num, hGQ.out nq⟩
      case measure => simp [intOf]; omega
    · obtain rfl : k = R.length := by omega
      go_wp2_with fail
      go_ret
      exact ⟨rfl, q, rfl⟩

theorem laid_one (b : List Int) (s : Nat) (y : Int) (h : s < b.length) : laid b s [y] = b.set s y := by
  unfold laid
  rw [List.set_eq_take_append_cons_drop, if_pos h]
  simp

set_option maxHeartbeats 2000000 in
set_option maxRecDepth 100000 in
theorem mend51 (ao : Option Addr) (n c1 : Nat) (x : List Int) (ro : Option Addr) (rc : Nat) (R : List RunW) (w : World) (hx : n = x.length) (hn : n ≤ 100000000) (hR : R.length ≤ 100000000) (hi : Ints .u8 w ao x) (hr : Wrs w ro R) :
    Calls Try.prog 51 #[.slice ao n c1, .slice ro R.length rc] w fun e w' => ((okR n 0 (R.map RunW.two) = true ∧ ∃ v, e = .returned (.tuple #[v, .int .i64 0]) ∧ w'.ownsRow w.heap.size 5 1 v n ((mendR x (R.map RunW.two)).map (Value.int .u8))) ∨ (okR n 0 (R.map RunW.two) = false ∧ e = .returned (.tuple #[.slice none 0 0, .int .i64 23]))) ∧ Below w.heap.size w w' := by
  obtain ⟨⟨b, off, hro, hc⟩, hin, hba, hl⟩ := hr
  have hC := hid (fun W (hW : Below w.heap.size w W) i (h : i < R.length) => And.intro ((hW.cell (World.block_lt_of_cell? w _ (hc i h).1)).trans (hc i h).1) ((hW.cell (World.block_lt_of_cell? w _ (hc i h).2)).trans (hc i h).2))
  have hI : Hid (∀ i (h : i < R.length), ∃ so c, R[i].v = .slice so R[i].l.length c ∧ ∀ W, Below w.heap.size w W → Ints .u8 W so R[i].l) := fun i h => by
    obtain ⟨so, c, h1, h2⟩ := hin i h
    exact ⟨so, c, h1, fun W hW => h2.mono hW⟩
  have hL := hid hl
  have hBA := hid hba
  have hA : Hid ((R.map RunW.two).take R.length = R.map RunW.two) := List.take_of_length_le (by simp)
  have hT := hid (take_two R)
  have hD := hid (drop_two R)
  obtain ⟨xb, xo, hao, hcx⟩ := hi.at
  have hXC : Hid (∀ W, Below w.heap.size w W → ∀ j, j < n → W.cell? ⟨xb, xo + j, none⟩ = some (.int .u8 (x.getD j 0))) := fun W hW j hj => (hW.cell (World.block_lt_of_cell? w _ (hcx.out j (by omega)))).trans (hcx.out j (by omega))
  rw [← hx] at hao
  have hX := hid hx
  clear hc hin hl hba hi hx hcx
  go_enter Try.func51, Try.ntmps51
  go_wp2_with fail
  go_loopw [6, 7] (fun la i wr => ∃ (k e : Nat), k ≤ R.length ∧ i = .int .i64 k ∧ la = .int .u64 e ∧ e ≤ n ∧ e = endR 0 ((R.map RunW.two).take k) ∧ okR n 0 ((R.map RunW.two).take k) = true ∧ Below w.heap.size w wr) (fun _ i _ => R.length - (intOf i).toNat)
  case atStart => exact ⟨0, 0, Nat.zero_le _, rfl, rfl, Nat.zero_le _, by simp [endR], by simp [okR], Below.refl _ _⟩
  case round =>
    obtain ⟨k, e, hk, rfl, rfl, hen, he, hok, hb⟩ := hrel
    have hE := hid he
    have hOk := hid hok
    have hB := hid hb
    clear he hok hb
    by_cases hlt : k < R.length
    · rcases hro with h0 | rfl
      · omega
      have hc1 := (hC.out wr hB.out k hlt).1
      have hc2 := (hC.out wr hB.out k hlt).2
      obtain ⟨so, c, hv, -⟩ := hI.out k hlt
      rw [hv] at hc2
      have hl1 := hL.out k hlt
      have ha1 := hBA.out k hlt
      have hD1 := hid (hD.out k hlt)
      have hT1 := hid (hT.out k hlt)
      have h2 : Hid (R[k].two = (R[k].at_, R[k].l)) := rfl
      clear hv
      generalize R[k].two = r at *
      generalize R[k].at_ = A at *
      obtain ⟨L, hLL⟩ : ∃ L, L = R[k].l.length := ⟨_, rfl⟩
      have hLe := hid hLL
      rw [← hLL] at hc2 hl1
      clear hLL
      have hw1 : IntKind.u64.wrap (A : Int) = A := by rw [IntKind.wrap_u64]; omega
      have hw2 : IntKind.u64.wrap (L : Int) = L := by rw [IntKind.wrap_u64]; omega
      have hw3 : IntKind.u64.wrap ((A : Int) + L) = (A : Int) + L := by rw [IntKind.wrap_u64]; omega
      have hw4 : IntKind.u64.wrap (n : Int) = n := by rw [IntKind.wrap_u64]; omega
      have hbad : Hid (¬ (0 < L ∧ e ≤ A ∧ A + L ≤ n) → okR n 0 (R.map RunW.two) = false) := fun h => by
        rw [hD1.out, okR_append, hOk.out, ← hE.out, Bool.true_and]
        refine okR_cons_false ?_
        rw [h2.out, ← hLe.out]
        exact h
      by_cases hL0 : L = 0
      · subst hL0
        have hbad' := hid (hbad.out (by omega))
        clear hbad hw3 hw4
        go_wp2_with fail
        go_ret2
        exact ⟨.inr ⟨hbad'.out, rfl⟩, hB.out⟩
      · have hq1 : ((L : Int) == 0) = false := by simp [hL0]
        have hq1' : ((L : Int) = 0) = False := eq_false (by omega)
        by_cases hA0 : A < e
        · have hbad' := hid (hbad.out (by omega))
          have hq2 : ((A : Int) < (e : Int)) = True := eq_true (by omega)
          clear hbad hL0 hw3 hw4
          go_wp2_with fail
          go_ret2
          exact ⟨.inr ⟨hbad'.out, rfl⟩, hB.out⟩
        · have hq2 : ((A : Int) < (e : Int)) = False := eq_false (by omega)
          by_cases hA1 : n < A + L
          · have hbad' := hid (hbad.out (by omega))
            have hq3 : ((n : Int) < (A : Int) + L) = True := eq_true (by omega)
            clear hbad hL0 hA0
            go_wp2_with fail
            go_ret2
            exact ⟨.inr ⟨hbad'.out, rfl⟩, hB.out⟩
          · have hq3 : ((n : Int) < (A : Int) + L) = False := eq_false (by omega)
            have hgood : Hid (0 < r.2.length ∧ endR 0 ((R.map RunW.two).take k) ≤ r.1 ∧ r.1 + r.2.length ≤ n) := by
              rw [h2.out, ← hE.out]
              show 0 < R[k].l.length ∧ e ≤ A ∧ A + R[k].l.length ≤ n
              rw [← hLe.out]
              omega
            have hfit : Hid (A + L ≤ n) := by unfold Hid; omega
            clear hbad hL0 hA0 hA1
            go_wp2_with fail
            go_roundw
            case rel => exact ⟨k + 1, A + L, by omega, by go_num, by go_num, hfit.out, by rw [hT1.out, endR_append, h2.out]; simp [endR, hLe.out], by rw [hT1.out, okR_append, hOk.out, Bool.true_and]; exact okR_one hgood.out, hB.out⟩
            case measure => simp [intOf]; omega
    · obtain rfl : k = R.length := by omega
      have hOkA := hid (hA.out ▸ hOk.out)
      clear hE hOk hlt
      go_wp2_with fail
      go_loopw [10, 11] (fun v i wr => ∃ (k : Nat) (v0 : Value), v0 = v ∧ k ≤ n ∧ i = .int .i64 k ∧ wr.ownsRow w.heap.size 5 1 v0 k ((x.take k).map (Value.int .u8)) ∧ Below w.heap.size w wr) (fun _ i _ => n - (intOf i).toNat)
      case atStart => exact ⟨0, _, rfl, Nat.zero_le _, rfl, World.ownsRow_nil _ _ 5 1, hB.out⟩
      case round =>
        clear hB
        obtain ⟨k, v, rfl, hk, rfl, ho, hb⟩ := hrel
        have hO := hid ho
        have hB := hid hb
        have hsz := hb.size
        clear ho hb
        by_cases hlt : k < n
        · rcases hao with h0 | rfl
          · omega
          have hcx := hXC.out wr hB.out k hlt
          have hpx : Hid ((x.take (k + 1)).map (Value.int .u8) = (x.take k).map (Value.int .u8) ++ [.int .u8 (x.getD k 0)]) := by
            have hkx : k < x.length := by have := hX.out; omega
            unfold Hid
            rw [List.take_add_one, List.getElem?_eq_getElem hkx, List.map_append]
            simp only [List.getD, List.getElem?_eq_getElem hkx, Option.getD_some, Option.toList_some, List.map_cons, List.map_nil]
          generalize x.getD k 0 = z at *
          go_wp2_with (at_builtin; go_must (refine wpList_append_new rfl _ _ 23 rfl w.heap.size 5 5 (.int .u8 0) 1 1 1 Try.underlying23 (by kernel_rfl) rfl (by decide) _ k _ [.int .u8 z] (0, 0) hO.out rfl (by simp [Value.oneCell']) (by unfold maxLen; omega) (by omega) hsz rfl rfl ?_); intro v' w1 hown' hb' _)
          rw [← hpx.out] at hown'
          have hO' := hid hown'
          have hB' := hid (hB.out.trans hb')
          clear hown' hb'
          go_roundw
          case rel => exact ⟨k + 1, _, rfl, by omega, by go_num, hO'.out, hB'.out⟩
          case measure => simp [intOf]; omega
        · obtain rfl : k = n := by omega
          have hO2 := hO.out
          rw [List.take_of_length_le (by have := hX.out; omega)] at hO2
          have hO3 := hid hO2
          clear hO hO2 hlt hk
          go_wp2_with fail
          go_loopw [12] (fun i wr => ∃ j : Nat, j ≤ R.length ∧ i = .int .i64 j ∧ wr.ownsRow w.heap.size 5 1 v k ((mendR x ((R.map RunW.two).take j)).map (Value.int .u8)) ∧ Below w.heap.size w wr) (fun i _ => R.length - (intOf i).toNat)
          case atStart => exact ⟨0, Nat.zero_le _, rfl, by simpa [mendR] using hO3.out, hB.out⟩
          case round =>
            clear hO3 hB hsz
            obtain ⟨j, hj, rfl, ho, hb⟩ := hrel
            have hO := hid ho
            have hB := hid hb
            clear ho hb
            by_cases hlt : j < R.length
            · rcases hro with h0 | rfl
              · omega
              have hfit : Hid (0 < R[j].l.length ∧ R[j].at_ + R[j].l.length ≤ k) := by
                have h1 := hOkA.out
                rw [hD.out j hlt, okR_append, Bool.and_eq_true] at h1
                have h2 := h1.2
                simp only [RunW.two, okR, Bool.and_eq_true, decide_eq_true_eq] at h2
                exact ⟨of_decide_eq_true h2.1.1.1, of_decide_eq_true h2.1.2⟩
              have hcc := hid (fun W hW => hC.out W hW j hlt)
              obtain ⟨so, c, hv, hsi⟩ := hI.out j hlt
              rw [hv] at hcc
              have hSI := hid hsi
              have hT1 := hid (hT.out j hlt)
              have h2 : Hid (R[j].two = (R[j].at_, R[j].l)) := rfl
              have hl1 := hL.out j hlt
              clear hv hsi
              generalize R[j].two = r at *
              generalize R[j].at_ = A at *
              generalize R[j].l = l at *
              have hbl : Hid ((mendR x ((R.map RunW.two).take j)).length = k) := by
                have h1 := hO.out.1
                simpa [Hid] using h1
              generalize hbs : mendR x ((R.map RunW.two).take j) = bs at *
              have hBS := hid hbs
              clear hbs
              have hc1 := (hcc.out wr hB.out).1
              have hc2 := (hcc.out wr hB.out).2
              go_wp2_with fail
              clear hc1 hc2
              go_loopw [13] (fun i wr => ∃ m : Nat, m ≤ l.length ∧ i = .int .i64 m ∧ wr.ownsRow w.heap.size 5 1 v k ((laid bs A (l.take m)).map (Value.int .u8)) ∧ Below w.heap.size w wr) (fun i _ => l.length - (intOf i).toNat)
              case atStart => exact ⟨0, Nat.zero_le _, rfl, by simpa [laid] using hO.out, hB.out⟩
              case round =>
                clear hO hB
                obtain ⟨m, hm, rfl, ho, hb⟩ := hrel
                have hO := hid ho
                have hB := hid hb
                have hc1 := (hcc.out wr hB.out).1
                have hc2 := (hcc.out wr hB.out).2
                clear hb
                by_cases hlt2 : m < l.length
                · obtain ⟨g, cap, hv, hg1, hg2, hnc, -⟩ := own_shape ho (by have := hfit.out; omega)
                  subst hv
                  have hAm : A + m < k := by have := hfit.out; omega
                  have hAmI : (A : Int) + m < (k : Int) := by omega
                  have hAm0 : (0 : Int) ≤ (A : Int) + m := by omega
                  have hms : (m : Int) < (l.length : Int) := by omega
                  have hw1 : IntKind.i64.wrap (A : Int) = A := IntWalk.i64_in _ (by omega)
                  have hw2 : IntKind.i64.wrap ((A : Int) + m) = (A : Int) + m := IntWalk.i64_in _ (by omega)
                  have hsrc := hid (fun W (hW : Below w.heap.size w W) => (hSI.out W hW).at)
                  have hx1 := hO.out.cellAt (A + m) (by omega)
                  have hz1 := hO.out.frozenAt (A + m)
                  rw [List.getElem?_eq_getElem (by have := hO.out.1; omega)] at hx1
                  obtain ⟨u1, hu1⟩ : ∃ u, wr.cell? ⟨g, A + m, none⟩ = some u := ⟨_, hx1⟩
                  have hst := hid (hO.out.stored (A + m) (.int .u8 (l.getD m 0))).1
                  have hset : Hid (((laid bs A (l.take m)).map (Value.int .u8)).set (A + m) (.int .u8 (l.getD m 0)) = (laid bs A (l.take (m + 1))).map (Value.int .u8)) := by
                    have hlm : l.take (m + 1) = l.take m ++ [l.getD m 0] := by
                      rw [List.take_add_one, List.getElem?_eq_getElem hlt2]
                      simp [List.getD, List.getElem?_eq_getElem hlt2]
                    have hlt3 : (l.take m).length = m := by rw [List.length_take]; omega
                    have hb0 := hbl.out
                    unfold Hid
                    rw [hlm, laid_snoc _ _ _ _ (by omega), hlt3, laid_one _ _ _ (by rw [laid_len _ _ _ (by omega)]; omega), List.map_set]
                  rw [hset.out] at hst
                  obtain ⟨sb, sof, hso, hsc⟩ := (hSI.out wr hB.out).at
                  have hsoH := hid hso
                  rcases hso with h0 | rfl
                  · omega
                  have hsc' : Hid (∀ W, Below w.heap.size w W → W.cell? ⟨sb, sof + m, none⟩ = some (.int .u8 (l.getD m 0))) := fun W hW => by
                    rcases (hSI.out W hW).cell with h | ⟨b', o', h, h2⟩
                    · omega
                    · simp only [Option.some.injEq, Addr.mk.injEq, and_true] at h
                      obtain ⟨rfl, rfl⟩ := h
                      exact h2 m hlt2
                  clear hx1 ho hsc hset hsrc
                  generalize l.getD m 0 = z at *
                  have hBd := hid (hB.out.trans ((Below.refl wr.heap.size wr).drew.mono hB.out.size))
                  have hBs := hid ((Below.setCell (p := ⟨g, A + m, none⟩) hB.out hg1 (.int .u8 z)).drew)
                  have hTN : ((A : Int) + (m : Int)).toNat = A + m := by omega
                  have hS0 : Hid (∀ W, Below w.heap.size w W → W.cell? ⟨b, off + j * 2, none⟩ = some (.int .u32 A) ∧ W.cell? ⟨b, off + j * 2 + 1, none⟩ = some (.slice (some ⟨sb, sof, none⟩) l.length c) ∧ W.cell? ⟨sb, sof + m, none⟩ = some (.int .u8 z)) := fun W hW => ⟨(hcc.out W hW).1, (hcc.out W hW).2, hsc'.out W hW⟩
                  go_wp2_with fail
                  clear hc1 hc2
                  refine wp_region_held_drew (S := fun W => W.cell? ⟨b, off + j * 2, none⟩ = some (.int .u32 A) ∧ W.cell? ⟨b, off + j * 2 + 1, none⟩ = some (.slice (some ⟨sb, sof, none⟩) l.length c) ∧ W.cell? ⟨sb, sof + m, none⟩ = some (.int .u8 z)) (by kernel_rfl) (hS0.out _ hBd.out) (fun hHeld => ?_)
                  refine wpAnyH_take (i := 0) (v := ?_) (by simp only [List.getElem?_toArray, List.getElem?_cons_succ, List.getElem?_cons_zero]; rfl) (by kernel_rfl) (by kernel_rfl) (by kernel_rfl) (by intro _ _ _ h; exact h) (Or.inl ⟨by rfl, ?_⟩) (by assumption) ?_
                  rotate_left
                  · intro w' hSw; (try dsimp only at hSw); go_simp; (try with_reducible rfl)
                  try simp only [Act.put, List.setIfInBounds_toArray, List.set_cons_zero, List.set_cons_succ]
                  refine wpAnyH_take (i := 1) (v := ?_) (by simp only [List.getElem?_toArray, List.getElem?_cons_succ, List.getElem?_cons_zero]; rfl) (by kernel_rfl) (by kernel_rfl) (by kernel_rfl) (by intro _ _ _ h; exact h) (Or.inl ⟨by rfl, ?_⟩) (by assumption) ?_
                  rotate_left
                  · intro w' hSw; (try dsimp only at hSw); go_simp; (try with_reducible rfl)
                  try simp only [Act.put, List.setIfInBounds_toArray, List.set_cons_zero, List.set_cons_succ]
                  refine wpAnyH_take (i := 2) (v := ?_) (by simp only [List.getElem?_toArray, List.getElem?_cons_succ, List.getElem?_cons_zero]; rfl) (by kernel_rfl) (by kernel_rfl) (by kernel_rfl) (by intro _ _ _ h; exact h) (Or.inl ⟨by rfl, ?_⟩) (by assumption) ?_
                  rotate_left
                  · intro w' hSw; (try dsimp only at hSw); go_simp; (try with_reducible rfl)
                  try simp only [Act.put, List.setIfInBounds_toArray, List.set_cons_zero, List.set_cons_succ]
                  refine wpAnyH_take (i := 3) (v := ?_) (by simp only [List.getElem?_toArray, List.getElem?_cons_succ, List.getElem?_cons_zero]; rfl) (by kernel_rfl) (by kernel_rfl) (by kernel_rfl) (by intro _ _ _ h; exact h) (Or.inl ⟨by rfl, ?_⟩) (by assumption) ?_
                  rotate_left
                  · intro w' hSw; (try dsimp only at hSw); go_simp; (try with_reducible rfl)
                  try simp only [Act.put, List.setIfInBounds_toArray, List.set_cons_zero, List.set_cons_succ]
                  refine wpAnyH_take (i := 4) (v := ?_) (by simp only [List.getElem?_toArray, List.getElem?_cons_succ, List.getElem?_cons_zero]; rfl) (by kernel_rfl) (by kernel_rfl) (by kernel_rfl) (by intro _ _ _ h; exact h) (Or.inl ⟨by rfl, ?_⟩) (by assumption) ?_
                  rotate_left
                  · intro w' hSw; (try dsimp only at hSw); go_simp; (try with_reducible rfl)
                  try simp only [Act.put, List.setIfInBounds_toArray, List.set_cons_zero, List.set_cons_succ]
                  refine wpAnyH_take (i := 5) (v := ?_) (by simp only [List.getElem?_toArray, List.getElem?_cons_succ, List.getElem?_cons_zero]; rfl) (by kernel_rfl) (by kernel_rfl) (by kernel_rfl) (by intro _ _ _ h; exact h) (Or.inl ⟨by rfl, ?_⟩) (by assumption) ?_
                  rotate_left
                  · intro w' hSw; (try dsimp only at hSw); go_simp; (try with_reducible rfl)
                  try simp only [Act.put, List.setIfInBounds_toArray, List.set_cons_zero, List.set_cons_succ]
                  refine wpAnyH_take (i := 6) (v := ?_) (by simp only [List.getElem?_toArray, List.getElem?_cons_succ, List.getElem?_cons_zero]; rfl) (by kernel_rfl) (by kernel_rfl) (by kernel_rfl) (by intro _ _ _ h; exact h) (Or.inl ⟨by rfl, ?_⟩) (by assumption) ?_
                  rotate_left
                  · intro w' hSw; (try dsimp only at hSw); go_simp; (try with_reducible rfl)
                  try simp only [Act.put, List.setIfInBounds_toArray, List.set_cons_zero, List.set_cons_succ]
                  refine wpAnyH_take (i := 7) (v := ?_) (by simp only [List.getElem?_toArray, List.getElem?_cons_succ, List.getElem?_cons_zero]; rfl) (by kernel_rfl) (by kernel_rfl) (by kernel_rfl) (by intro _ _ _ h; exact h) (Or.inl ⟨by rfl, ?_⟩) (by assumption) ?_
                  rotate_left
                  · intro w' hSw; (try dsimp only at hSw); go_simp; (try with_reducible rfl)
                  try simp only [Act.put, List.setIfInBounds_toArray, List.set_cons_zero, List.set_cons_succ]
                  refine wpAnyH_take (i := 8) (v := ?_) (by simp only [List.getElem?_toArray, List.getElem?_cons_succ, List.getElem?_cons_zero]; rfl) (by kernel_rfl) (by kernel_rfl) (by kernel_rfl) (by intro _ _ _ h; exact h) (Or.inl ⟨by rfl, ?_⟩) (by assumption) ?_
                  rotate_left
                  · intro w' hSw; (try dsimp only at hSw); go_simp; (try with_reducible rfl)
                  try simp only [Act.put, List.setIfInBounds_toArray, List.set_cons_zero, List.set_cons_succ]
                  refine wpAnyH_take (i := 9) (v := ?_) (by simp only [List.getElem?_toArray, List.getElem?_cons_succ, List.getElem?_cons_zero]; rfl) (by kernel_rfl) (by kernel_rfl) (by kernel_rfl) (by intro _ _ _ h; exact h) (Or.inl ⟨by rfl, ?_⟩) (by assumption) ?_
                  rotate_left
                  · intro w' hSw; (try dsimp only at hSw); go_simp; (try with_reducible rfl)
                  try simp only [Act.put, List.setIfInBounds_toArray, List.set_cons_zero, List.set_cons_succ]
                  refine wpAnyH_take (i := 10) (v := ?_) (by simp only [List.getElem?_toArray, List.getElem?_cons_succ, List.getElem?_cons_zero]; rfl) (by kernel_rfl) (by kernel_rfl) (by kernel_rfl) (by intro _ _ _ h; exact h) (Or.inl ⟨by rfl, ?_⟩) (by assumption) ?_
                  rotate_left
                  · intro w' hSw; (try dsimp only at hSw); go_simp; (try with_reducible rfl)
                  try simp only [Act.put, List.setIfInBounds_toArray, List.set_cons_zero, List.set_cons_succ]
                  refine wpAnyH_take (i := 11) (v := ?_) (by simp only [List.getElem?_toArray, List.getElem?_cons_succ, List.getElem?_cons_zero]; rfl) (by kernel_rfl) (by kernel_rfl) (by kernel_rfl) (by intro _ _ _ h; exact h) (Or.inl ⟨by rfl, ?_⟩) (by assumption) ?_
                  rotate_left
                  · intro w' hSw; (try dsimp only at hSw); go_simp; (try with_reducible rfl)
                  try simp only [Act.put, List.setIfInBounds_toArray, List.set_cons_zero, List.set_cons_succ]
                  refine wpAnyH_take (i := 12) (v := ?_) (by simp only [List.getElem?_toArray, List.getElem?_cons_succ, List.getElem?_cons_zero]; rfl) (by kernel_rfl) (by kernel_rfl) (by kernel_rfl) (by intro _ _ _ h; exact h) (Or.inl ⟨by rfl, ?_⟩) (by assumption) ?_
                  rotate_left
                  · intro w' hSw; (try dsimp only at hSw); go_simp; (try with_reducible rfl)
                  try simp only [Act.put, List.setIfInBounds_toArray, List.set_cons_zero, List.set_cons_succ]
                  refine wpAnyH_take (i := 13) (v := ?_) (by simp only [List.getElem?_toArray, List.getElem?_cons_succ, List.getElem?_cons_zero]; rfl) (by kernel_rfl) (by kernel_rfl) (by kernel_rfl) (by intro _ _ _ h; exact h) (Or.inl ⟨by rfl, ?_⟩) (by assumption) ?_
                  rotate_left
                  · intro w' hSw; (try dsimp only at hSw); go_simp; (try with_reducible rfl)
                  try simp only [Act.put, List.setIfInBounds_toArray, List.set_cons_zero, List.set_cons_succ]
                  refine wpAnyH_take (i := 14) (v := ?_) (by simp only [List.getElem?_toArray, List.getElem?_cons_succ, List.getElem?_cons_zero]; rfl) (by kernel_rfl) (by kernel_rfl) (by kernel_rfl) (by intro _ _ _ h; exact h) (Or.inl ⟨by rfl, ?_⟩) (by assumption) ?_
                  rotate_left
                  · intro w' hSw; (try dsimp only at hSw); go_simp; (try with_reducible rfl)
                  try simp only [Act.put, List.setIfInBounds_toArray, List.set_cons_zero, List.set_cons_succ]
                  refine wpAnyH_take (i := 15) (v := ?_) (by simp only [List.getElem?_toArray, List.getElem?_cons_succ, List.getElem?_cons_zero]; rfl) (by kernel_rfl) (by kernel_rfl) (by kernel_rfl) (by intro _ _ _ h; exact h) (Or.inl ⟨by rfl, ?_⟩) (by assumption) ?_
                  rotate_left
                  · intro w' hSw; (try dsimp only at hSw); go_simp; (try with_reducible rfl)
                  try simp only [Act.put, List.setIfInBounds_toArray, List.set_cons_zero, List.set_cons_succ]
                  refine wpAnyH_take (i := 16) (v := ?_) (by simp only [List.getElem?_toArray, List.getElem?_cons_succ, List.getElem?_cons_zero]; rfl) (by kernel_rfl) (by kernel_rfl) (by kernel_rfl) (by intro _ _ _ h; exact h) (Or.inl ⟨by rfl, ?_⟩) (by assumption) ?_
                  rotate_left
                  · intro w' hSw; (try dsimp only at hSw); go_simp; (try with_reducible rfl)
                  try simp only [Act.put, List.setIfInBounds_toArray, List.set_cons_zero, List.set_cons_succ]
                  refine wpAnyH_take (i := 17) (v := ?_) (by simp only [List.getElem?_toArray, List.getElem?_cons_succ, List.getElem?_cons_zero]; rfl) (by kernel_rfl) (by kernel_rfl) (by kernel_rfl) (by intro _ _ _ h; exact h) (Or.inl ⟨by rfl, ?_⟩) (by assumption) ?_
                  rotate_left
                  · intro w' hSw; (try dsimp only at hSw); go_simp; (try with_reducible rfl)
                  try simp only [Act.put, List.setIfInBounds_toArray, List.set_cons_zero, List.set_cons_succ]
                  refine wpAnyH_ready (rs := [18]) (by kernel_rfl) (by simp) ?_
                  refine AllReadyH.cons (by simp only [List.getElem?_toArray, List.getElem?_cons_succ, List.getElem?_cons_zero]; rfl) (fun K hK => ?_) AllReadyH.nil
                  go_simp
                  refine hK.out _ _ (hS0.out _ hBs.out) (fun hHeld => ?_)
                  clear hK K
                  try simp only [Act.put, List.setIfInBounds_toArray, List.set_cons_zero, List.set_cons_succ]
                  refine wpAnyH_done (by kernel_rfl) ?_ _
                  go_wp2_with fail
                  go_roundw
                  case rel => exact ⟨m + 1, by omega, by go_num, hst.out.drew, hBs.out⟩
                  case measure => simp [intOf]; omega
                · obtain rfl : m = l.length := by omega
                  have hO2 := hO.out
                  rw [List.take_of_length_le (Nat.le_refl _)] at hO2
                  have hO3 := hid hO2
                  clear hO hO2 ho
                  go_wp2_with fail
                  go_roundw
                  case rel => exact ⟨j + 1, by omega, by go_num, by rw [hT1.out, mendR_append, h2.out, hBS.out]; exact hO3.out, hB.out⟩
                  case measure => simp [intOf]; omega
            · obtain rfl : j = R.length := by omega
              have hO2 := hid (hA.out ▸ hO.out)
              clear hO
              go_wp2_with fail
              go_ret2
              exact ⟨.inl ⟨hOkA.out, v, rfl, hO2.out⟩, hB.out⟩
end Go.Proofs.Ytdhicfolchpmhaa

namespace Go.Proofs.Ytdhicfolchpmhaa
open Go.RowKit
set_option linter.unusedVariables false
set_option linter.unusedSimpArgs false

/-- a run that was lent -/
structure LD where
  at_ : Nat
  f : Nat
  c : Nat
  l : List Int
def LD.run (d : LD) : RunW := ⟨d.at_, .slice (some ⟨d.f, 0, none⟩) d.l.length d.c, d.l⟩
def LD.fv (d : LD) : Value := .slice (some ⟨d.f, 0, none⟩) (d.l.length + 64) d.c
def LD.full (d : LD) : RowS := ⟨d.fv, 5, 1, d.l.length + 64, (lentL d.l).map (Value.int .u8)⟩
def mkA (i : Nat) : Value := .int .u32 ((90 + i : Nat) : Int)
def mkN (_ : Nat) : Value := .slice none 0 0
theorem pairsN_succ (f g : Nat → Value) (n : Nat) : ((List.range (n + 1)).flatMap fun i => [f i, g i]) = ((List.range n).flatMap fun i => [f i, g i]) ++ [f n, g n] := by simp [List.range_succ]
theorem pairsN_len (f g : Nat → Value) (n : Nat) : ((List.range n).flatMap fun i => [f i, g i]).length = n * 2 := by
  induction n with
  | zero => rfl
  | succ n ih => rw [pairsN_succ, List.length_append, ih]; simp; omega
theorem pairsN_get (f g : Nat → Value) (n i : Nat) (h : i < n) : ((List.range n).flatMap fun i => [f i, g i])[i * 2]? = some (f i) ∧ ((List.range n).flatMap fun i => [f i, g i])[i * 2 + 1]? = some (g i) := by
  induction n with
  | zero => omega
  | succ n ih =>
    rw [pairsN_succ]
    by_cases hlt : i < n
    · have := ih hlt
      rw [List.getElem?_append_left (by rw [pairsN_len]; omega), List.getElem?_append_left (by rw [pairsN_len]; omega)]
      exact this
    · obtain rfl : i = n := by omega
      rw [List.getElem?_append_right (by rw [pairsN_len]; omega), List.getElem?_append_right (by rw [pairsN_len]; omega), pairsN_len]
      simp
def marksN (m : Nat) : List Value := (List.range m).flatMap fun i => [mkA i, mkN i]

structure Lent (w : World) (B : Nat) (v u : Value) (D : List LD) (m : Nat) : Prop where
  sep : Sep w B (⟨v, 104, 2, D.length + m, (D.map LD.run).flatMap RunW.cells ++ marksN m⟩ :: ⟨u, 23, 1, D.length, D.map LD.fv⟩ :: D.map LD.full)

theorem Lent.start (w : World) (B : Nat) : Lent w B (.slice none 0 0) (.slice none 0 0) [] 0 := ⟨⟨fun i hi => by
  match i, hi with
  | 0, _ => exact World.ownsRow_nil w B 104 2
  | 1, _ => exact World.ownsRow_nil w B 23 1, fun i j hi hj hij => .inl (by
  match i, hi with
  | 0, _ => rfl
  | 1, _ => rfl)⟩⟩
theorem Lent.ownV {w : World} {B : Nat} {v u : Value} {D : List LD} {m : Nat} (h : Lent w B v u D m) : w.ownsRow B 104 2 v (D.length + m) ((D.map LD.run).flatMap RunW.cells ++ marksN m) := by
  have := h.sep.own 0 (by simp); simpa using this
theorem Lent.ownU {w : World} {B : Nat} {v u : Value} {D : List LD} {m : Nat} (h : Lent w B v u D m) : w.ownsRow B 23 1 u D.length (D.map LD.fv) := by
  have := h.sep.own 1 (by simp); simpa using this
theorem Lent.below {w w' : World} {B : Nat} {v u : Value} {D : List LD} {m : Nat} (h : Lent w B v u D m) (hb : Below w.heap.size w w') : Lent w' B v u D m := ⟨h.sep.below hb (Nat.le_refl _)⟩
theorem Lent.ints {w : World} {B : Nat} {v u : Value} {D : List LD} {m : Nat} (h : Lent w B v u D m) (hb : ∀ d ∈ D, Byt d.l) (i : Nat) (hi : i < D.length) : Ints .u8 w (some ⟨D[i].f, 0, none⟩) (lentL D[i].l) ∧ D[i].l.length + 64 ≤ D[i].c := by
  have ho := h.sep.own (i + 2) (by simpa using hi)
  simp only [List.getElem_cons_succ, List.getElem_map, LD.full, LD.fv] at ho
  obtain ⟨ao, c, hv, hI, -, hc, -⟩ := ints_of_own ho (fun x hx => by
    rcases List.mem_append.1 hx with h1 | h1
    · exact ints_of_byt (hb _ (List.getElem_mem hi)) x h1
    · obtain ⟨i, _, rfl⟩ := List.mem_map.1 h1
      exact wf_u8.2 (markB_bd _ _))
  simp only [Value.slice.injEq] at hv
  obtain ⟨rfl, _, rfl⟩ := hv
  rw [lentL_len] at hc
  exact ⟨hI, hc⟩

/-- one run more is lent: its bytes were lent; it is laid behind the runs, and its whole list behind the wholes -/
theorem Lent.more {w0 w w1 w2 : World} {B : Nat} {v u v' u' : Value} {D : List LD} (h0 : Lent w0 B v u D 0) (hw : Below w0.heap.size w0 w) (hB : B ≤ w0.heap.size) (d : LD) (ho : w.ownsRow w0.heap.size 5 1 d.fv (d.l.length + 64) ((lentL d.l).map (Value.int .u8)))
    (hA1 : Appended w w1 B 104 2 v v' D.length 1 ((D.map LD.run).flatMap RunW.cells) d.run.cells) (hA2 : Appended w1 w2 B 23 1 u u' D.length 1 (D.map LD.fv) [d.fv]) : Lent w2 B v' u' (D ++ [d]) 0 := by
  have h1 := (h0.below hw).sep
  have h2 := h1.push d.full (own_base ho hB) (fun i hi => h0.sep.apart_new d.full (fun g hg => (ho.lt g hg).1) i hi)
  have p1 : v'.ownBlock = v.ownBlock ∨ ∃ g, v'.ownBlock = some g ∧ w.heap.size ≤ g := by
    rcases hA1.place with hp | ⟨g, hp, hg, _⟩
    · exact .inl hp
    · exact .inr ⟨g, hp, hg⟩
  have p2 : u'.ownBlock = u.ownBlock ∨ ∃ g, u'.ownBlock = some g ∧ w1.heap.size ≤ g := by
    rcases hA2.place with hp | ⟨g, hp, hg, _⟩
    · exact .inl hp
    · exact .inr ⟨g, hp, hg⟩
  have h3 := h2.turn 0 (by simp) ⟨v', 104, 2, D.length + 1, (D.map LD.run).flatMap RunW.cells ++ d.run.cells⟩ (by simpa using hA1.grown) hA1.own (by simpa using p1)
  have h4 := h3.turn 1 (by simp) ⟨u', 23, 1, D.length + 1, D.map LD.fv ++ [d.fv]⟩ (by simpa using hA2.grown) hA2.own (by simpa using p2)
  refine ⟨?_⟩
  simpa [marksN] using h4
theorem Lent.onU {w w1 : World} {B : Nat} {v u v' : Value} {D : List LD} {n k m : Nat} {xs news : List Value} (h : Lent w B v u D m) (hA : Appended w w1 B 104 2 v v' n k xs news) : w1.ownsRow B 23 1 u D.length (D.map LD.fv) := by
  refine h.ownU.kept hA.grown ?_
  have h2 := h.sep.apart 1 0 (by simp) (by simp) (by decide)
  simpa [RowS.apart] using h2
theorem Lent.mark {w w1 : World} {B : Nat} {v u v' : Value} {D : List LD} {m : Nat} (h : Lent w B v u D m) (hA : Appended w w1 B 104 2 v v' (D.length + m) 1 ((D.map LD.run).flatMap RunW.cells ++ marksN m) [mkA m, mkN m]) : Lent w1 B v' u D (m + 1) := by
  have p1 : v'.ownBlock = v.ownBlock ∨ ∃ g, v'.ownBlock = some g ∧ w.heap.size ≤ g := by
    rcases hA.place with hp | ⟨g, hp, hg, _⟩
    · exact .inl hp
    · exact .inr ⟨g, hp, hg⟩
  have h3 := h.sep.turn 0 (by simp) ⟨v', 104, 2, D.length + (m + 1), (D.map LD.run).flatMap RunW.cells ++ marksN m ++ [mkA m, mkN m]⟩ (by simpa using hA.grown) hA.own (by simpa using p1)
  refine ⟨?_⟩
  have e : marksN (m + 1) = marksN m ++ [mkA m, mkN m] := pairsN_succ _ _ _
  rw [e, ← List.append_assoc]
  simpa using h3

set_option maxHeartbeats 2000000 in
set_option maxRecDepth 100000 in
theorem lent50 (ro : Option Addr) (rc : Nat) (R : List RunW) (w : World) (hR : R.length ≤ 10000000) (hr : Wrs w ro R) :
    Calls Try.prog 50 #[.slice ro R.length rc] w fun e w' => ∃ v u, e = .returned (.tuple #[v, u]) ∧ Below w.heap.size w w' ∧ ∃ D : List LD, D.map (fun d => d.run.two) = R.map RunW.two ∧ Lent w' w.heap.size v u D 64 := by
  obtain ⟨⟨b, off, hro, hc⟩, hin, hba, hl⟩ := hr
  have hC := hid (fun W (hW : Below w.heap.size w W) i (h : i < R.length) => And.intro ((hW.cell (World.block_lt_of_cell? w _ (hc i h).1)).trans (hc i h).1) ((hW.cell (World.block_lt_of_cell? w _ (hc i h).2)).trans (hc i h).2))
  have hI : Hid (∀ i (h : i < R.length), ∃ so c, R[i].v = .slice so R[i].l.length c ∧ ∀ W, Below w.heap.size w W → Ints .u8 W so R[i].l) := fun i h => by
    obtain ⟨so, c, h1, h2⟩ := hin i h
    exact ⟨so, c, h1, fun W hW => h2.mono hW⟩
  have hL := hid hl
  have hT := hid (take_two R)
  have hA : Hid ((R.map RunW.two).take R.length = R.map RunW.two) := List.take_of_length_le (by simp)
  clear hc hin hl hba
  go_enter Try.func50, Try.ntmps50
  go_wp2_with fail
  go_loopw [4, 5, 6] (fun v u i wr => ∃ (k : Nat) (v0 u0 : Value) (D : List LD), v0 = v ∧ u0 = u ∧ i = .int .i64 k ∧ k ≤ R.length ∧ D.length = k ∧ D.map (fun d => d.run.two) = (R.map RunW.two).take k ∧ Lent wr w.heap.size v0 u0 D 0 ∧ Below w.heap.size w wr) (fun _ _ i _ => R.length - (intOf i).toNat)
  case atStart => exact ⟨0, _, _, [], rfl, rfl, rfl, Nat.zero_le _, rfl, rfl, Lent.start _ _, Below.refl _ _⟩
  case round =>
    obtain ⟨k, v, u, D, rfl, rfl, rfl, hk, hdl, hd, hle, hb⟩ := hrel
    have hDL := hid hdl
    have hDt := hid hd
    have hLe := hid hle
    have hB := hid hb
    clear hdl hd hle hb
    by_cases hlt : k < R.length
    · rcases hro with h0 | rfl
      · omega
      have hcc := hid (fun W hW => hC.out W hW k hlt)
      obtain ⟨so, c, hv, hsi⟩ := hI.out k hlt
      rw [hv] at hcc
      have hSI := hid hsi
      have hT1 := hid (hT.out k hlt)
      have h2 : Hid (R[k].two = (R[k].at_, R[k].l)) := rfl
      have hl1 := hL.out k hlt
      clear hv hsi
      generalize R[k].two = r at *
      generalize R[k].at_ = A at *
      generalize R[k].l = l at *
      have hc1 := (hcc.out wr hB.out).1
      have hc2 := (hcc.out wr hB.out).2
      go_wp2_with fail
      have h18 := lent_any so l.length c l wr rfl (by omega) (hSI.out wr hB.out)
      refine h18.mono ?_
      clear h18 hc1 hc2
      rintro e w2 ⟨v2, rfl, ho2, hb2⟩
      obtain ⟨f, cf, hv2, -, -, hfc, -⟩ := own_shape ho2 (by omega)
      subst hv2
      have hO2 := hid ho2
      have hb2' := hid hb2
      have hB2 := hid (hB.out.trans (hb2.mono hB.out.size))
      have hBd := hid (hB2.out.trans ((Below.refl w2.heap.size w2).drew.mono hB2.out.size))
      have hLd := hid ((hLe.out.below hb2).below (Below.refl w2.heap.size w2).drew)
      have hOd := hid ho2.drew
      have hx1 : (0 : Int) ≤ (l.length : Int) := by omega
      have hx2 : (l.length : Int) ≤ (cf : Int) := by omega
      have hDk := hDL.out
      clear ho2 hb2
      go_wp2_with fail
      refine wp_region_held_drew (S := fun W => W.cell? ⟨b, off + k * 2, none⟩ = some (.int .u32 A) ∧ W.cell? ⟨b, off + k * 2 + 1, none⟩ = some (.slice so l.length c)) (by kernel_rfl) (hcc.out _ hBd.out) (fun hHeld => ?_)
      refine wpAnyH_take (i := 0) (v := ?_) (by simp only [List.getElem?_toArray, List.getElem?_cons_succ, List.getElem?_cons_zero]; rfl) (by kernel_rfl) (by kernel_rfl) (by kernel_rfl) (by intro _ _ _ h; exact h) (Or.inl ⟨by rfl, ?_⟩) (by assumption) ?_
      rotate_left
      · intro w' hSw; (try dsimp only at hSw); go_simp; (try with_reducible rfl)
      try simp only [Act.put, List.setIfInBounds_toArray, List.set_cons_zero, List.set_cons_succ]
      refine wpAnyH_take (i := 1) (v := ?_) (by simp only [List.getElem?_toArray, List.getElem?_cons_succ, List.getElem?_cons_zero]; rfl) (by kernel_rfl) (by kernel_rfl) (by kernel_rfl) (by intro _ _ _ h; exact h) (Or.inl ⟨by rfl, ?_⟩) (by assumption) ?_
      rotate_left
      · intro w' hSw; (try dsimp only at hSw); go_simp; (try with_reducible rfl)
      try simp only [Act.put, List.setIfInBounds_toArray, List.set_cons_zero, List.set_cons_succ]
      refine wpAnyH_take (i := 2) (v := ?_) (by simp only [List.getElem?_toArray, List.getElem?_cons_succ, List.getElem?_cons_zero]; rfl) (by kernel_rfl) (by kernel_rfl) (by kernel_rfl) (by intro _ _ _ h; exact h) (Or.inl ⟨by rfl, ?_⟩) (by assumption) ?_
      rotate_left
      · intro w' hSw; (try dsimp only at hSw); go_simp; (try with_reducible rfl)
      try simp only [Act.put, List.setIfInBounds_toArray, List.set_cons_zero, List.set_cons_succ]
      refine wpAnyH_take (i := 3) (v := ?_) (by simp only [List.getElem?_toArray, List.getElem?_cons_succ, List.getElem?_cons_zero]; rfl) (by kernel_rfl) (by kernel_rfl) (by kernel_rfl) (by intro _ _ _ h; exact h) (Or.inl ⟨by rfl, ?_⟩) (by assumption) ?_
      rotate_left
      · intro w' hSw; (try dsimp only at hSw); go_simp; (try with_reducible rfl)
      try simp only [Act.put, List.setIfInBounds_toArray, List.set_cons_zero, List.set_cons_succ]
      refine wpAnyH_take (i := 4) (v := ?_) (by simp only [List.getElem?_toArray, List.getElem?_cons_succ, List.getElem?_cons_zero]; rfl) (by kernel_rfl) (by kernel_rfl) (by kernel_rfl) (by intro _ _ _ h; exact h) (Or.inl ⟨by rfl, ?_⟩) (by assumption) ?_
      rotate_left
      · intro w' hSw; (try dsimp only at hSw); go_simp; (try with_reducible rfl)
      try simp only [Act.put, List.setIfInBounds_toArray, List.set_cons_zero, List.set_cons_succ]
      refine wpAnyH_take (i := 5) (v := ?_) (by simp only [List.getElem?_toArray, List.getElem?_cons_succ, List.getElem?_cons_zero]; rfl) (by kernel_rfl) (by kernel_rfl) (by kernel_rfl) (by intro _ _ _ h; exact h) (Or.inl ⟨by rfl, ?_⟩) (by assumption) ?_
      rotate_left
      · intro w' hSw; (try dsimp only at hSw); go_simp; (try with_reducible rfl)
      try simp only [Act.put, List.setIfInBounds_toArray, List.set_cons_zero, List.set_cons_succ]
      refine wpAnyH_take (i := 6) (v := ?_) (by simp only [List.getElem?_toArray, List.getElem?_cons_succ, List.getElem?_cons_zero]; rfl) (by kernel_rfl) (by kernel_rfl) (by kernel_rfl) (by intro _ _ _ h; exact h) (Or.inl ⟨by rfl, ?_⟩) (by assumption) ?_
      rotate_left
      · intro w' hSw; (try dsimp only at hSw); go_simp; (try with_reducible rfl)
      try simp only [Act.put, List.setIfInBounds_toArray, List.set_cons_zero, List.set_cons_succ]
      refine wpAnyH_take (i := 7) (v := ?_) (by simp only [List.getElem?_toArray, List.getElem?_cons_succ, List.getElem?_cons_zero]; rfl) (by kernel_rfl) (by kernel_rfl) (by kernel_rfl) (by intro _ _ _ h; exact h) (Or.inl ⟨by rfl, ?_⟩) (by assumption) ?_
      rotate_left
      · intro w' hSw; (try dsimp only at hSw); go_simp; (try with_reducible rfl)
      try simp only [Act.put, List.setIfInBounds_toArray, List.set_cons_zero, List.set_cons_succ]
      refine wpAnyH_take (i := 8) (v := ?_) (by simp only [List.getElem?_toArray, List.getElem?_cons_succ, List.getElem?_cons_zero]; rfl) (by kernel_rfl) (by kernel_rfl) (by kernel_rfl) (by intro _ _ _ h; exact h) (Or.inl ⟨by rfl, ?_⟩) (by assumption) ?_
      rotate_left
      · intro w' hSw; (try dsimp only at hSw); go_simp; (try with_reducible rfl)
      try simp only [Act.put, List.setIfInBounds_toArray, List.set_cons_zero, List.set_cons_succ]
      refine wpAnyH_take (i := 9) (v := ?_) (by simp only [List.getElem?_toArray, List.getElem?_cons_succ, List.getElem?_cons_zero]; rfl) (by kernel_rfl) (by kernel_rfl) (by kernel_rfl) (by intro _ _ _ h; exact h) (Or.inl ⟨by rfl, ?_⟩) (by assumption) ?_
      rotate_left
      · intro w' hSw; (try dsimp only at hSw); go_simp; (try with_reducible rfl)
      try simp only [Act.put, List.setIfInBounds_toArray, List.set_cons_zero, List.set_cons_succ]
      refine wpAnyH_take (i := 10) (v := ?_) (by simp only [List.getElem?_toArray, List.getElem?_cons_succ, List.getElem?_cons_zero]; rfl) (by kernel_rfl) (by kernel_rfl) (by kernel_rfl) (by intro _ _ _ h; exact h) (Or.inl ⟨by rfl, ?_⟩) (by assumption) ?_
      rotate_left
      · intro w' hSw; (try dsimp only at hSw); go_simp; (try with_reducible rfl)
      try simp only [Act.put, List.setIfInBounds_toArray, List.set_cons_zero, List.set_cons_succ]
      refine wpAnyH_take (i := 11) (v := ?_) (by simp only [List.getElem?_toArray, List.getElem?_cons_succ, List.getElem?_cons_zero]; rfl) (by kernel_rfl) (by kernel_rfl) (by kernel_rfl) (by intro _ _ _ h; exact h) (Or.inl ⟨by rfl, ?_⟩) (by assumption) ?_
      rotate_left
      · intro w' hSw; (try dsimp only at hSw); go_simp; (try with_reducible rfl)
      try simp only [Act.put, List.setIfInBounds_toArray, List.set_cons_zero, List.set_cons_succ]
      refine wpAnyH_take (i := 12) (v := ?_) (by simp only [List.getElem?_toArray, List.getElem?_cons_succ, List.getElem?_cons_zero]; rfl) (by kernel_rfl) (by kernel_rfl) (by kernel_rfl) (by intro _ _ _ h; exact h) (Or.inl ⟨by rfl, ?_⟩) (by assumption) ?_
      rotate_left
      · intro w' hSw; (try dsimp only at hSw); go_simp; (try with_reducible rfl)
      try simp only [Act.put, List.setIfInBounds_toArray, List.set_cons_zero, List.set_cons_succ]
      refine wpAnyH_take (i := 13) (v := ?_) (by simp only [List.getElem?_toArray, List.getElem?_cons_succ, List.getElem?_cons_zero]; rfl) (by kernel_rfl) (by kernel_rfl) (by kernel_rfl) (by intro _ _ _ h; exact h) (Or.inl ⟨by rfl, ?_⟩) (by assumption) ?_
      rotate_left
      · intro w' hSw; (try dsimp only at hSw); go_simp; (try with_reducible rfl)
      try simp only [Act.put, List.setIfInBounds_toArray, List.set_cons_zero, List.set_cons_succ]
      refine wpAnyH_take (i := 14) (v := ?_) (by simp only [List.getElem?_toArray, List.getElem?_cons_succ, List.getElem?_cons_zero]; rfl) (by kernel_rfl) (by kernel_rfl) (by kernel_rfl) (by intro _ _ _ h; exact h) (Or.inl ⟨by rfl, ?_⟩) (by assumption) ?_
      rotate_left
      · intro w' hSw; (try dsimp only at hSw); go_simp; (try with_reducible rfl)
      try simp only [Act.put, List.setIfInBounds_toArray, List.set_cons_zero, List.set_cons_succ]
      refine wpAnyH_ready (rs := [15]) (by kernel_rfl) (by simp) ?_
      refine AllReadyH.cons (by simp only [List.getElem?_toArray, List.getElem?_cons_succ, List.getElem?_cons_zero]; rfl) (fun K hK => ?_) AllReadyH.nil
      go_simp
      refine hK.out _ _ (hcc.out _ (hBd.out.alloc hBd.out.size _)) (fun hHeld => ?_)
      clear hK K
      try simp only [Act.put, List.setIfInBounds_toArray, List.set_cons_zero, List.set_cons_succ]
      refine wpAnyH_ready (rs := [16]) (by kernel_rfl) (by simp) ?_
      refine AllReadyH.cons (by simp only [List.getElem?_toArray, List.getElem?_cons_succ, List.getElem?_cons_zero]; rfl) (fun K hK => ?_) AllReadyH.nil
      refine step_append_str rfl _ _ 90 rfl w.heap.size 104 104 (.agg #[.int .u32 0, .slice none 0 0]) 2 32 1 Try.underlying90 (by kernel_rfl) rfl (by decide) v D.length _ [.int .u32 A, .slice (some ⟨f, 0, none⟩) l.length cf] (0, 0) (by have := hLd.out.ownV; simpa [marksN] using this) rfl (by simp [Value.oneCell']) (by unfold maxLen; omega) (by omega) hBd.out.size rfl rfl ?_
      intro v' w3 hA3
      have hA3' := hid hA3
      have hB3 := hid (hBd.out.trans (hA3.below (by have := hLd.out.ownV; simpa [marksN] using this) hBd.out.size))
      have hOU := hid (hLd.out.onU hA3)
      clear hA3
      refine hK.out _ _ (hcc.out _ hB3.out) (fun hHeld => ?_)
      clear hK K
      try simp only [Act.put, List.setIfInBounds_toArray, List.set_cons_zero, List.set_cons_succ]
      refine wpAnyH_take (i := 17) (v := ?_) (by simp only [List.getElem?_toArray, List.getElem?_cons_succ, List.getElem?_cons_zero]; rfl) (by kernel_rfl) (by kernel_rfl) (by kernel_rfl) (by intro _ _ _ h; exact h) (Or.inl ⟨by rfl, ?_⟩) (by assumption) ?_
      rotate_left
      · intro w' hSw; (try dsimp only at hSw); go_simp; (try with_reducible rfl)
      try simp only [Act.put, List.setIfInBounds_toArray, List.set_cons_zero, List.set_cons_succ]
      refine wpAnyH_done (by kernel_rfl) ?_ _
      clear hHeld
      have hsz3 := hB3.out.size
      go_wp2_with (at_builtin; go_must (refine wpList_append_str rfl _ _ 63 rfl w.heap.size 23 23 (.slice none 0 0) 1 24 1 Try.underlying63 (by kernel_rfl) rfl (by decide) _ D.length _ [_] (0, 0) hOU.out rfl (by simp [Value.oneCell']) (by unfold maxLen; omega) (by omega) hsz3 rfl rfl ?_); intro u' w4 hA4)
      have hL4 := hid (hLe.out.more (hb2'.out.trans ((Below.refl w2.heap.size w2).drew.mono hb2'.out.size)) hB.out.size ⟨A, f, cf, l⟩ hOd.out hA3'.out hA4)
      have hB4 := hid (hB3.out.trans (hA4.below hOU.out hsz3))
      clear hA4 hA3'
      go_roundw
      case rel => exact ⟨k + 1, _, _, D ++ [⟨A, f, cf, l⟩], rfl, rfl, by go_num, by omega, by simp [hDL.out], by rw [List.map_append, hDt.out, hT1.out, h2.out]; rfl, hL4.out, hB4.out⟩
      case measure => simp [intOf]; omega
    · obtain rfl : k = R.length := by omega
      have hDk := hDL.out
      clear hlt
      go_wp2_with fail
      go_loopw [4, 8] (fun v i wr => ∃ (m : Nat) (v0 : Value), v0 = v ∧ i = .int .i64 m ∧ m ≤ 64 ∧ Lent wr w.heap.size v0 u D m ∧ Below w.heap.size w wr) (fun _ i _ => 64 - (intOf i).toNat)
      case atStart => exact ⟨0, _, rfl, rfl, by omega, hLe.out, hB.out⟩
      case round =>
        clear hLe hB
        obtain ⟨m, v, rfl, rfl, hm, hle, hb⟩ := hrel
        have hLe := hid hle
        have hB := hid hb
        have hsz := hb.size
        clear hle hb
        by_cases hlt2 : m < 64
        · have hw1 : IntKind.i64.wrap (90 + (m : Int)) = 90 + (m : Int) := IntWalk.i64_in _ (by omega)
          have hw2 : IntKind.u32.wrap (90 + (m : Int)) = 90 + (m : Int) := by rw [IntKind.wrap_u32]; omega
          have hmA : Hid (mkA m = .int .u32 (90 + (m : Int))) := by unfold mkA Hid; congr 1
          go_wp2_with (at_builtin; go_must (refine wpList_append_str rfl _ _ 90 rfl w.heap.size 104 104 (.agg #[.int .u32 0, .slice none 0 0]) 2 32 1 Try.underlying90 (by kernel_rfl) rfl (by decide) _ (D.length + m) _ [_, _] (0, 0) hLe.out.ownV rfl (by simp [Value.oneCell']) (by unfold maxLen; omega) (by omega) hsz rfl rfl ?_); intro v' w3 hA3)
          have hL3 := hid (hLe.out.mark (by rw [hmA.out]; exact hA3))
          have hB3 := hid (hB.out.trans (hA3.below hLe.out.ownV hsz))
          clear hA3
          go_roundw
          case rel => exact ⟨m + 1, _, rfl, by go_num, by omega, hL3.out, hB3.out⟩
          case measure => simp [intOf]; omega
        · obtain rfl : m = 64 := by omega
          go_wp2_with fail
          go_ret2
          first
            | exact ⟨_, _, rfl, hB.out, D, by rw [hDt.out, hA.out], hLe.out⟩
            | exact ⟨_, u, rfl, hB.out, D, by rw [hDt.out, hA.out], hLe.out⟩
end Go.Proofs.Ytdhicfolchpmhaa

namespace Go.Proofs.Ytdhicfolchpmhaa
open Go.RowKit
set_option linter.unusedVariables false
set_option linter.unusedSimpArgs false

theorem two_at {D : List LD} {R : List RunW} (h : D.map (fun d => d.run.two) = R.map RunW.two) : D.length = R.length ∧ ∀ i (h1 : i < D.length) (h2 : i < R.length), D[i].at_ = R[i].at_ ∧ D[i].l = R[i].l := by
  have hl := congrArg List.length h
  simp only [List.length_map] at hl
  refine ⟨hl, fun i h1 h2 => ?_⟩
  have h3 : (D.map (fun d => d.run.two))[i]? = (R.map RunW.two)[i]? := by rw [h]
  rw [List.getElem?_map, List.getElem?_map, List.getElem?_eq_getElem h1, List.getElem?_eq_getElem h2] at h3
  simp only [Option.map_some, Option.some.injEq, RunW.two, LD.run, Prod.mk.injEq] at h3
  exact h3
theorem Wrs.byt {w : World} {ro : Option Addr} {R : List RunW} (h : Wrs w ro R) (i : Nat) (hi : i < R.length) : Byt R[i].l := by
  obtain ⟨so, c, _, h2⟩ := h.ints i hi
  exact byt_of_ints h2

/-- what lies lent -/
theorem Lent.lies {w : World} {B : Nat} {v u : Value} {D : List LD} (h : Lent w B v u D 64) (hb : ∀ d ∈ D, Byt d.l) (hat : ∀ d ∈ D, d.at_ ≤ 4294967295 ∧ d.l.length ≤ 100000000) :
    ∃ g c uo ug uc, v = .slice (some ⟨g, 0, none⟩) (D.length + 64) c ∧ D.length + 64 ≤ c ∧ Wrs w (some ⟨g, 0, none⟩) (D.map LD.run) ∧ (∀ m, m < 64 → w.cell? ⟨g, (D.length + m) * 2, none⟩ = some (mkA m) ∧ w.cell? ⟨g, (D.length + m) * 2 + 1, none⟩ = some (.slice none 0 0))
      ∧ u = .slice uo D.length uc ∧ (D.length = 0 ∨ uo = some ⟨ug, 0, none⟩) ∧ ∀ i (hi : i < D.length), w.cell? ⟨ug, i, none⟩ = some D[i].fv ∧ Ints .u8 w (some ⟨D[i].f, 0, none⟩) (lentL D[i].l) := by
  obtain ⟨g, c, hv, -, -, hc, -⟩ := own_shape h.ownV (by omega)
  obtain ⟨uo, uc, hu, hcase⟩ := own_any_shape h.ownU
  have hov := h.ownV
  rw [hv] at hov
  have hl1 := run_cells_len (D.map LD.run)
  have hl2 : (marksN 64).length = 64 * 2 := pairsN_len _ _ _
  rw [List.length_map] at hl1
  obtain ⟨ug, hug⟩ : ∃ ug, D.length = 0 ∨ uo = some ⟨ug, 0, none⟩ := by
    rcases hcase with h0 | ⟨q, hq⟩
    · exact ⟨0, .inl h0⟩
    · exact ⟨q, .inr hq⟩
  refine ⟨g, c, uo, ug, uc, hv, hc, ⟨⟨g, 0, .inr rfl, fun i hi => ?_⟩, fun i hi => ?_, fun i hi => ?_, fun i hi => ?_⟩, fun m hm => ?_, hu, hug, fun i hi => ⟨?_, (h.ints hb i hi).1⟩⟩
  · have hi' : i < D.length := by simpa using hi
    have h3 := run_cells_get (D.map LD.run) i hi
    rw [Nat.zero_add, hov.cellAt (i * 2) (by omega), hov.cellAt (i * 2 + 1) (by omega), List.getElem?_append_left (by omega), List.getElem?_append_left (by omega)]
    exact h3
  · have hi' : i < D.length := by simpa using hi
    have h4 := h.ints hb i hi'
    refine ⟨some ⟨D[i].f, 0, none⟩, D[i].c, by simp [LD.run], ?_⟩
    have h5 := h4.1.take D[i].l.length
    unfold lentL at h5
    rw [List.take_left] at h5
    simpa [LD.run] using h5
  · simp only [List.getElem_map, LD.run]; exact (hat _ (List.getElem_mem (by simpa using hi))).1
  · simp only [List.getElem_map, LD.run]; exact (hat _ (List.getElem_mem (by simpa using hi))).2
  · have h3 := pairsN_get mkA mkN 64 m hm
    rw [hov.cellAt ((D.length + m) * 2) (by omega), hov.cellAt ((D.length + m) * 2 + 1) (by omega), List.getElem?_append_right (by omega), List.getElem?_append_right (by omega), hl1,
      show (D.length + m) * 2 - D.length * 2 = m * 2 by omega, show (D.length + m) * 2 + 1 - D.length * 2 = m * 2 + 1 by omega]
    exact h3
  · rcases hug with h0 | rfl
    · omega
    have hou := h.ownU
    rw [hu] at hou
    rw [hou.cellAt i (by omega), List.getElem?_map, List.getElem?_eq_getElem hi]
    rfl

set_option maxHeartbeats 2000000 in
set_option maxRecDepth 100000 in
theorem kept53 (v u : Value) (B : Nat) (D : List LD) (ro : Option Addr) (rc : Nat) (R : List RunW) (w : World) (hR : R.length ≤ 10000000) (hd : D.map (fun d => d.run.two) = R.map RunW.two) (hl : Lent w B v u D 64) (hr : Wrs w ro R) :
    Calls Try.prog 53 #[v, u, .slice ro R.length rc] w fun e w' => e = .returned (.bool true) ∧ ∃ q, w' = w.drewN q := by
  obtain ⟨hDl, hDe⟩ := two_at hd
  have hin : ∀ d ∈ D, ∃ i, ∃ (h1 : i < R.length), d.at_ = R[i].at_ ∧ d.l = R[i].l := fun d hd => by
    obtain ⟨i, hi, rfl⟩ := List.getElem_of_mem hd
    exact ⟨i, by omega, hDe i hi (by omega)⟩
  obtain ⟨g, c, uo, ug, uc, hv, hc, hW, hmk, hu, huo, hful⟩ := hl.lies (fun d hd => by
    obtain ⟨i, hi, _, e⟩ := hin d hd
    rw [e]; exact hr.byt i hi) (fun d hd => by
    obtain ⟨i, hi, e1, e2⟩ := hin d hd
    rw [e1, e2]; exact ⟨hr.bat i hi, hr.bl i hi⟩)
  subst hv hu
  rw [hDl] at hc hmk huo ⊢
  have h56 := hid (same56 (some ⟨g, 0, none⟩) ro c rc (D.map LD.run) R w (by simpa using hDl) (by simpa [hDl] using (show R.length ≤ 100000000 by omega)) hW hr (fun i h1 h2 => by
    simp only [List.getElem_map, LD.run]
    exact hDe i (by simpa using h1) h2))
  rw [List.length_map, hDl] at h56
  obtain ⟨⟨b, off, hro, hcc⟩, hri, -, hrl⟩ := hr
  have hC := hid (fun i (hi : i < R.length) => (hcc i hi).2)
  have hI := hid hri
  have hL := hid hrl
  have hF : Hid (∀ i (hi : i < R.length), ∃ f fc, w.cell? ⟨ug, i, none⟩ = some (.slice (some ⟨f, 0, none⟩) (R[i].l.length + 64) fc) ∧ Ints .u8 w (some ⟨f, 0, none⟩) (lentL R[i].l)) := fun i hi => by
    have h1 := hful i (by omega)
    have h2 := (hDe i (by omega) hi).2
    rw [← h2]
    exact ⟨D[i].f, D[i].c, h1.1, h1.2⟩
  have hM := hid hmk
  clear hW hmk hful hcc hri hrl hin hDe hd hl hDl
  have hx1 : (0 : Int) ≤ (R.length : Int) := by omega
  have hx2 : (R.length : Int) ≤ (c : Int) := by omega
  have hw64 : IntKind.i64.wrap ((R.length : Int) + 64) = (R.length : Int) + 64 := IntWalk.i64_in _ (by omega)
  go_enter Try.func53, Try.ntmps53
  go_wp2_with fail
  refine h56.out.mono ?_
  clear h56
  rintro e w2 ⟨rfl, q0, hq0⟩
  have hQ0 := hid hq0
  clear hq0
  go_wp2_with fail
  clear hx2 hw64
  go_loopw [7] (fun i wr => ∃ k q : Nat, k ≤ R.length ∧ i = .int .i64 k ∧ wr = w.drewN q) (fun i _ => R.length - (intOf i).toNat)
  case atStart => exact ⟨0, q0, Nat.zero_le _, rfl, hQ0.out⟩
  case round =>
    obtain ⟨k, q, hk, rfl, rfl⟩ := hrel
    by_cases hlt : k < R.length
    · rcases hro with h0 | rfl
      · omega
      rcases huo with h0 | rfl
      · omega
      have d1 := hC.out k hlt
      obtain ⟨so1, c1, hv1, hI3⟩ := hI.out k hlt
      obtain ⟨f, fc, d2, hI4⟩ := hF.out k hlt
      rw [hv1] at d1
      have hll := hL.out k hlt
      clear hv1
      have h5 := hid hI3
      have h6 := hid hI4
      clear hI3 hI4
      generalize R[k].l = l at *
      have hs := hid (fun m => kept_any (some ⟨f, 0, none⟩) (l.length + 64) fc so1 l.length c1 l ((w.drewN q).drewN m) (by rw [lentL_len]) rfl (by omega) ((h6.out.drewN q).drewN m) ((h5.out.drewN q).drewN m))
      have d1' : (w.drewN q).cell? ⟨b, off + k * 2 + 1, none⟩ = some (.slice so1 l.length c1) := by simpa using d1
      have d2' : (w.drewN q).cell? ⟨ug, k, none⟩ = some (.slice (some ⟨f, 0, none⟩) (l.length + 64) fc) := by simpa using d2
      have hgq : ∀ m, (w.drewN q).drewN m = w.drewN (q + m) := fun m => by simp
      have hGQ := hid hgq
      clear d1 d2 hgq
      generalize w.drewN q = wz at *
      go_wp2_with fail
      go_quiet ((go_at_call 20; exact Calls.quiet_of (hs.out _)))
      go_wp2_with fail
      go_roundw
      case rel => exact ⟨k + 1, q + nq, by omega, by go_num, hGQ.out nq⟩
      case measure => simp [intOf]; omega
    · obtain rfl : k = R.length := by omega
      go_wp2_with fail
      go_loopw [8] (fun i wr => ∃ m q : Nat, m ≤ 64 ∧ i = .int .i64 m ∧ wr = w.drewN q) (fun i _ => 64 - (intOf i).toNat)
      case atStart => exact ⟨0, q, by omega, rfl, rfl⟩
      case round =>
        obtain ⟨m, q, hm, rfl, rfl⟩ := hrel
        by_cases hlt2 : m < 64
        · have d1 : (w.drewN q).cell? ⟨g, (R.length + m) * 2, none⟩ = some (mkA m) := by simpa using (hM.out m hlt2).1
          have d2 : (w.drewN q).cell? ⟨g, (R.length + m) * 2 + 1, none⟩ = some (.slice none 0 0) := by simpa using (hM.out m hlt2).2
          have hw1 : IntKind.i64.wrap (90 + (m : Int)) = 90 + (m : Int) := IntWalk.i64_in _ (by omega)
          have hw2 : IntKind.u32.wrap (90 + (m : Int)) = 90 + (m : Int) := by rw [IntKind.wrap_u32]; omega
          have hw3 : IntKind.i64.wrap ((R.length : Int) + m) = (R.length : Int) + m := IntWalk.i64_in _ (by omega)
          have hTN : ((R.length : Int) + (m : Int)).toNat = R.length + m := by omega
          have hi1 : (0 : Int) ≤ (R.length : Int) + m := by omega
          have hi2 : (R.length : Int) + m < (R.length : Int) + 64 := by omega
          rw [show mkA m = .int .u32 (90 + (m : Int)) by unfold mkA; congr 1] at d1
          obtain ⟨wz, hwz⟩ : ∃ wz, wz = w.drewN q := ⟨_, rfl⟩
          rw [← hwz] at d1 d2 ⊢
          have hQq := hid hwz
          clear hwz
          go_wp2_with fail
          go_roundw
          case rel => exact ⟨m + 1, q, by omega, by go_num, hQq.out⟩
          case measure => simp [intOf]; omega
        · obtain rfl : m = 64 := by omega
          go_wp2_with fail
          go_ret
          exact ⟨rfl, q, rfl⟩
end Go.Proofs.Ytdhicfolchpmhaa
