/- Walks: SameBytes, KeptBytes, OverBytes. -/
import Derived.Test.YtdhicfolchpmhaaWalkA
namespace Go.Proofs.Ytdhicfolchpmhaa
open Go.RowKit
set_option linter.unusedVariables false
set_option linter.unusedSimpArgs false

/-- 'or' of a number and a byte above it -/
theorem or_add (i : Nat) (a b : Int) (ha : 0 ≤ a ∧ a < 256 ^ i) (hb : 0 ≤ b ∧ b ≤ 255) (hi : i ≤ 7) : bits BinOp.or .u64 a (b * 256 ^ i) = a + b * 256 ^ i := by
  obtain ⟨m, rfl⟩ := Int.eq_ofNat_of_zero_le ha.1
  obtain ⟨k, rfl⟩ := Int.eq_ofNat_of_zero_le hb.1
  have hm : m < 2 ^ (8 * i) := by
    have := ha.2
    rw [Nat.pow_mul]
    have e : ((256 ^ i : Nat) : Int) = (256 : Int) ^ i := Int.natCast_pow 256 i
    rw [← e] at this
    exact Int.ofNat_lt.1 this
  have hk : k < 256 := by omega
  have hpow : (256 : Nat) ^ i = 2 ^ (8 * i) := by rw [Nat.pow_mul]
  have hor : m ||| (k * 2 ^ (8 * i)) = m + k * 2 ^ (8 * i) := by
    rw [Nat.mul_comm k, Nat.or_comm, ← Nat.two_pow_add_eq_or_of_lt hm]
    omega
  have hbig : k * 2 ^ (8 * i) < 2 ^ 64 := by
    have h1 : 2 ^ (8 * i) ≤ 2 ^ 56 := Nat.pow_le_pow_right (by decide) (by omega)
    have h2 : k * 2 ^ (8 * i) ≤ 255 * 2 ^ 56 := Nat.mul_le_mul (by omega) h1
    omega
  have hsum : m + k * 2 ^ (8 * i) < 2 ^ 64 := by
    have h1 : 2 ^ (8 * i) ≤ 2 ^ 56 := Nat.pow_le_pow_right (by decide) (by omega)
    have h2 : k * 2 ^ (8 * i) ≤ 255 * 2 ^ 56 := Nat.mul_le_mul (by omega) h1
    omega
  have ecast : ((k : Int) * 256 ^ i) = ((k * 2 ^ (8 * i) : Nat) : Int) := by
    rw [← hpow, Int.natCast_mul, Int.natCast_pow]; rfl
  rw [ecast]
  have h1 : (BitVec.ofInt 64 (m : Int)).toNat = m := by
    rw [BitVec.ofInt_natCast, BitVec.toNat_ofNat]; exact Nat.mod_eq_of_lt (by omega)
  have h2 : (BitVec.ofInt 64 ((k * 2 ^ (8 * i) : Nat) : Int)).toNat = k * 2 ^ (8 * i) := by
    rw [BitVec.ofInt_natCast, BitVec.toNat_ofNat]; exact Nat.mod_eq_of_lt hbig
  show IntKind.u64.wrap ((BitVec.ofInt 64 (m : Int) ||| BitVec.ofInt 64 ((k * 2 ^ (8 * i) : Nat) : Int)).toNat : Int) = _
  rw [BitVec.toNat_or, h1, h2, hor, IntKind.wrap_u64]
  omega

/-- two lists that agree in all places -/
theorem list_ext_getD (a b : List Int) (h : a.length = b.length) (H : ∀ i, i < a.length → a.getD i 0 = b.getD i 0) : a = b := by
  refine List.ext_getElem h fun i h1 h2 => ?_
  have := H i h1
  simpa [List.getD, h1, h2] using this

set_option maxHeartbeats 1000000 in
theorem same_any (ao : Option Addr) (n cap : Nat) (l : List Int) (bo : Option Addr) (m cap2 : Nat) (r : List Int) (w : World) (hn : n = l.length) (hm : m = r.length) (hl : l.length ≤ 140737488355328) (hi : Ints .u8 w ao l) (hj : Ints .u8 w bo r) :
    Calls Try.prog 27 #[.slice ao n cap, .slice bo m cap2] w fun e w' => e = .returned (.bool (decide (l = r))) ∧ ∃ q, w' = w.drewN q := by
  subst hn hm
  obtain ⟨b1, off1, hao1, hc1⟩ := hi.at
  obtain ⟨b2, off2, hao2, hc2⟩ := hj.at
  clear hi hj
  by_cases hlen : l.length = r.length
  · have hne : ((l.length : Int) != (r.length : Int)) = false := by simp [hlen]
    have hH := hid hlen
    have hle : l.length ≤ r.length := by omega
    clear hlen
    rcases hao1 with hn1 | rfl <;> rcases hao2 with hn2 | rfl
    all_goals
      go_enter Try.func27, Try.ntmps27
      go_wp2
      go_loopw [5] (fun i wr => ∃ k q : Nat, k ≤ l.length ∧ i = .int .i64 k ∧ (∀ j, j < k → l.getD j 0 = r.getD j 0) ∧ wr = w.drewN q) (fun i _ => l.length - (intOf i).toNat)
      case atStart => exact ⟨0, 0, Nat.zero_le _, rfl, fun j hj => by omega, rfl⟩
      case round =>
        obtain ⟨k, q, hk, rfl, hall, rfl⟩ := hrel
        have hall' := hid hall
        clear hall
        by_cases hlt : k < l.length
        · first
          | omega
          | have hcell1 := hc1.out k hlt
            have hcell2 := hc2.out k (by omega)
            have hx1 : (k : Int) < (l.length : Int) := by omega
            have hx2 : (k : Int) < (r.length : Int) := by omega
            by_cases hxy : l.getD k 0 = r.getD k 0
            · have hxy' := hid hxy
              have hb : ((l.getD k 0) != (r.getD k 0)) = false := bne_eq_false_iff_eq.2 hxy
              clear hxy
              generalize hgx : l.getD k 0 = x at *
              generalize hgy : r.getD k 0 = y at *
              have hgx' := hid hgx
              have hgy' := hid hgy
              clear hgx hgy
              go_wp2_with fail
              go_quiet (fail)
              go_wp2_with fail
              go_roundw
              case rel => exact ⟨k + 1, q + nq, by omega, by go_num, fun j hj => by
                by_cases hjk : j < k
                · exact hall'.out j hjk
                · obtain rfl : j = k := by omega
                  rw [hgx'.out, hgy'.out]; exact hxy'.out, by simp⟩
              case measure => simp [intOf]; omega
            · have hd : Hid (decide (l = r) = false) := by
                unfold Hid; rw [decide_eq_false_iff_not]; intro h; exact hxy (by rw [h])
              have hb : ((l.getD k 0) != (r.getD k 0)) = true := by rw [bne_iff_ne]; exact hxy
              clear hxy
              generalize l.getD k 0 = x at *
              generalize r.getD k 0 = y at *
              go_wp2_with fail
              go_quiet (fail)
              go_wp2_with fail
              go_ret
              exact ⟨ret_bool hd.out.symm, q + nq, by simp⟩
        · have hd : Hid (decide (l = r) = true) := by
            unfold Hid; rw [decide_eq_true_iff]; exact list_ext_getD l r hH.out (fun i hi => hall'.out i (by omega))
          go_wp2_with fail
          go_ret
          exact ⟨ret_bool hd.out.symm, q, rfl⟩
  · have hne : ((l.length : Int) != (r.length : Int)) = true := by rw [bne_iff_ne]; omega
    have hd : Hid (decide (l = r) = false) := by
      unfold Hid; rw [decide_eq_false_iff_not]; intro h; exact hlen (by rw [h])
    clear hao1 hao2
    go_enter Try.func27, Try.ntmps27
    go_wp2
    go_ret
    exact ⟨ret_bool hd.out.symm, 0, rfl⟩

set_option maxHeartbeats 1000000 in
/-- KeptBytes, where the whole list reads as it was lent. -/
theorem kept_any (ao : Option Addr) (n cap : Nat) (bo : Option Addr) (m cap2 : Nat) (l : List Int) (w : World) (hn : n = (lentL l).length) (hm : m = l.length) (hl : l.length ≤ 140737488355328) (hi : Ints .u8 w ao (lentL l)) (hj : Ints .u8 w bo l) :
    Calls Try.prog 20 #[.slice ao n cap, .slice bo m cap2] w fun e w' => e = .returned (.bool true) ∧ ∃ q, w' = w.drewN q := by
  rw [lentL_len] at hn
  subst hn hm
  obtain ⟨b1, off1, hao1, hc1⟩ := hi.at
  obtain ⟨b2, off2, hao2, hc2⟩ := hj.at
  clear hi hj
  have hL := lentL_len l
  have hLL := hid hL
  rcases hao1 with hn1 | rfl
  · omega
  have hfull : Hid (∀ i, i < l.length + 64 → w.cell? ⟨b1, off1 + i, none⟩ = some (.int .u8 ((lentL l).getD i 0))) := fun i hi => hc1.out i (by omega)
  clear hc1 hL
  have hne : ((↑(l.length + 64) : Int) != (l.length : Int) + 64) = false := by rw [bne_eq_false_iff_eq]; omega
  rcases hao2 with hn2 | rfl
  all_goals
    go_enter Try.func20, Try.ntmps20
    go_wp2
    go_loopw [5] (fun i wr => ∃ k q : Nat, k ≤ l.length ∧ i = .int .i64 k ∧ wr = w.drewN q) (fun i _ => l.length - (intOf i).toNat)
    case atStart => exact ⟨0, 0, Nat.zero_le _, rfl, rfl⟩
    case round =>
      obtain ⟨k, q, hk, rfl, rfl⟩ := hrel
      by_cases hlt : k < l.length
      · first
        | omega
        | have hcell1 := hfull.out k (by omega)
          have hcell2 := hc2.out k hlt
          have hx1 : (k : Int) < (l.length : Int) + 64 := by omega
          have hx2 : (k : Int) < (l.length : Int) := by omega
          have hxy : (lentL l).getD k 0 = l.getD k 0 := by unfold lentL; simp [List.getD, List.getElem?_append, hlt]
          rw [hxy] at hcell1
          have hb : ((l.getD k 0) != (l.getD k 0)) = false := bne_eq_false_iff_eq.2 rfl
          clear hxy
          generalize l.getD k 0 = x at *
          go_wp2_with fail
          go_quiet (fail)
          go_wp2_with fail
          go_roundw
          case rel => exact ⟨k + 1, q + nq, by omega, by go_num, by simp⟩
          case measure => simp [intOf]; omega
      · go_wp2_with fail
        go_loopw [6] (fun i wr => ∃ j q : Nat, j ≤ 64 ∧ i = .int .i64 j ∧ wr = w.drewN q) (fun i _ => 64 - (intOf i).toNat)
        case atStart => exact ⟨0, q, Nat.zero_le _, rfl, rfl⟩
        case round =>
          obtain ⟨j, q2, hj, rfl, hw2⟩ := hrel
          have hW2 := hid hw2
          clear hw2
          by_cases hlt2 : j < 64
          · have hcell1 := hfull.out (l.length + j) (by omega)
            have hx1 : (l.length : Int) + (j : Int) < (l.length : Int) + 64 := by omega
            have hxy : (lentL l).getD (l.length + j) 0 = markB 0 j := by unfold lentL; simp [List.getD, List.getElem?_append, hlt2]
            rw [hxy] at hcell1
            have hcell3 : wr.cell? ⟨b1, off1 + (l.length + j), none⟩ = some (.int .u8 (markB 0 j)) := by rw [hW2.out]; exact hcell1
            clear hcell1
            have hb : ((markB 0 j) != (markB 0 j)) = false := bne_eq_false_iff_eq.2 rfl
            clear hxy
            have hI : IntKind.i64.wrap ((l.length : Int) + (j : Int)) = (l.length : Int) + (j : Int) := by
              exact IntWalk.i64_in _ (by omega)
            have hT : ((l.length : Int) + (j : Int)).toNat = l.length + j := by omega
            have hG : 0 ≤ (l.length : Int) + (j : Int) := by omega
            have hx3 : (j : Int) < 64 := by omega
            go_wp2_with fail
            go_quiet ((go_at_call 59; exact quiet_eq (mark_any _ _ _)))
            go_wp2_with fail
            go_roundw
            case rel => exact ⟨j + 1, q2 + nq, by omega, by go_num, by rw [hW2.out]; simp⟩
            case measure => simp [intOf]; omega
          · go_wp2_with fail
            go_ret
            exact ⟨rfl, q2, hW2.out⟩

set_option maxHeartbeats 1000000 in
theorem over_any (g n cap base : Nat) (xs : List Value) (w : World) (hown : w.ownsRow base 5 1 (.slice (some ⟨g, 0, none⟩) n cap) n xs) (hl : n ≤ 140737488355328) :
    Calls Try.prog 21 #[.slice (some ⟨g, 0, none⟩) n cap] w fun e w' => e = .returned (.tuple #[]) ∧ w'.ownsRow base 5 1 (.slice (some ⟨g, 0, none⟩) n cap) n (((List.range n).map (fun i : Nat => markB (-1) i)).map (Value.int .u8)) ∧ w.grownBy w' (some g) := by
  have hlen : Hid (xs.length = n) := by have := hown.1; unfold Hid; simpa using this
  have hown0 := hid hown
  clear hown
  go_enter Try.func21, Try.ntmps21
  go_wp2
  go_loopw [2] (fun i wr => ∃ k : Nat, k ≤ n ∧ i = .int .i64 k ∧ wr.ownsRow base 5 1 (.slice (some ⟨g, 0, none⟩) n cap) n ((List.range k).map (fun i : Nat => Value.int .u8 (markB (-1) i)) ++ xs.drop k) ∧ w.grownBy wr (some g)) (fun i _ => n - (intOf i).toNat)
  case atStart => exact ⟨0, Nat.zero_le _, rfl, by simpa using hown0.out, grown_refl _ _⟩
  case round =>
    obtain ⟨k, hk, rfl, hown, hg⟩ := hrel
    have hO := hid hown
    clear hown
    by_cases hlt : k < n
    · have hfr := hO.out.frozenAt k
      have hce := hO.out.cellAt k (by omega)
      rw [List.getElem?_append_right (by simp), List.length_map, List.length_range, Nat.sub_self, List.getElem?_drop, Nat.add_zero, List.getElem?_eq_getElem (by rw [hlen.out]; exact hlt)] at hce
      have hst := hid (hO.out.stored k (.int .u8 (markB (-1) k)))
      have hS := hid (set_at (fun i : Nat => Value.int .u8 (markB (-1) i)) xs k (by rw [hlen.out]; exact hlt))
      generalize xs[k]'(by rw [hlen.out]; exact hlt) = u at *
      go_wp2_with (go_at_call 59; go_must (refine (mark_any _ _ _).mono ?_); rintro e w' ⟨rfl, rfl⟩)
      go_roundw
      case rel => exact ⟨k + 1, by omega, by go_num, by have := hst.out.1; rw [hS.out] at this; exact this, grown_trans hg hst.out.2⟩
      case measure => simp [intOf]; omega
    · obtain rfl : k = n := by omega
      go_wp2_with fail
      go_end0
      exact ⟨rfl, by have := hO.out; rw [List.drop_eq_nil_of_le (by rw [hlen.out]; omega), List.append_nil] at this; rw [List.map_map]; exact this, hg⟩

/-- slices.Clone of bytes -/
theorem clone_any (ao : Option Addr) (n cap : Nat) (l : List Int) (w : World) (hn : n = l.length) (hl : l.length ≤ 140737488355328) (hi : Ints .u8 w ao l) :
    Calls Try.prog 86 #[.slice ao n cap] w fun e w' => ∃ v, e = .returned v ∧ w'.ownsRow w.heap.size 5 1 v n (l.map (Value.int .u8)) ∧ Below w.heap.size w w' := by
  subst hn
  cases ao with
  | none =>
    have h0 : l.length = 0 := by
      rcases hi.cell with h | ⟨b, off, h, _⟩
      · omega
      · cases h
    have hsl := fun W : World => Lib.run_eql_slice_nil (P := Try.prog) W 23 5 none l.length cap 0 0 Try.underlying23
    have hH := hid (List.eq_nil_of_length_eq_zero h0)
    clear h0
    go_enter Try.func86, Try.ntmps86
    go_wp2_with fail
    go_ret
    exact ⟨_, rfl, by rw [hH.out]; exact World.ownsRow_nil _ _ _ _, Below.refl _ _⟩
  | some ad =>
    have hsl := fun W : World => Lib.run_eql_slice_nil (P := Try.prog) W 23 5 (some ad) l.length cap 0 0 Try.underlying23
    have hI := hid hi
    clear hi
    go_enter Try.func86, Try.ntmps86
    have hO : Hid ((w.alloc (.cells #[] 5)).ownsRow w.heap.size 5 1 (.slice (some ⟨w.heap.size, 0, none⟩) 0 0) 0 []) := World.ownsRow_made w #[] 0 (Nat.le_refl _) (by simp [maxLen]) (by simp)
    have hI2 := hid (hI.out.mono ((Below.refl w.heap.size w).alloc (Nat.le_refl _) (.cells #[] 5)))
    go_wp2_with (at_builtin; go_must (refine wpList_append_src rfl _ _ 23 rfl w.heap.size 5 (.int .u8 0) 1 1 Try.underlying23 Try.info5 rfl (by decide) _ 0 [] hO.out ad l.length cap (l.map (Value.int .u8)) (by simp) hI2.out.news (ints_one _ _) (by unfold maxLen; omega) (by omega) (by simp) rfl rfl ?_); intro v' w1 hown' hb' _)
    go_ret
    exact ⟨_, rfl, by simpa using hown', ((Below.refl _ _).alloc (Nat.le_refl _) _).trans hb'⟩
end Go.Proofs.Ytdhicfolchpmhaa
