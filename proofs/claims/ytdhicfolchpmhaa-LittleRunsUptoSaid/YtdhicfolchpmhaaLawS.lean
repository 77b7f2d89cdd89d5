/- Walks: lives, LittleOver, LittleThere. -/
import Derived.Test.YtdhicfolchpmhaaLawR
import Derived.Test.YtdhicfolchpmhaaLawP1
import Derived.Test.YtdhicfolchpmhaaLawP2
import Derived.Test.YtdhicfolchpmhaaLawP4
import Derived.Test.YtdhicfolchpmhaaLawP8
import Derived.Test.YtdhicfolchpmhaaLawQ1
import Derived.Test.YtdhicfolchpmhaaLawQ2
import Derived.Test.YtdhicfolchpmhaaLawQ4
import Derived.Test.YtdhicfolchpmhaaLawQ8
namespace Go.Proofs.Ytdhicfolchpmhaa
open Go.RowKit
set_option linter.unusedVariables false
set_option linter.unusedSimpArgs false

theorem ints_block (k : IntKind) (w : World) (e : TypeId) (fr : Nat × Nat) (l : List Int) (cs : Array Value) (hcs : cs = (l.map (Value.int k)).toArray) (h : ∀ x ∈ l, (Lit.int k x).wf = true) : Ints k (w.alloc (.cells cs e fr)) (some ⟨w.heap.size, 0, none⟩) l := by
  subst hcs
  refine ⟨h, .inr ⟨_, _, rfl, fun i hi => ?_⟩⟩
  rw [World.cell?_alloc_mark]
  simp [List.getD, hi]

set_option maxHeartbeats 1000000 in
theorem lives_any (w : World) : Calls Try.prog 28 #[] w fun e w' => e = .returned (.bool true) ∧ Below w.heap.size w w' := by
  have hp := hid (show putL 2 [258, 3] = [2, 1, 3, 0] from by decide)
  have hn := hid (show num (([1, 0, 0, 2] : List Int).drop 0 |>.take 4) = 33554433 from by decide)
  have hA1 : Hid (Ints .u16 (w.alloc (.cells #[.int .u16 258, .int .u16 3] 114)) (some ⟨w.heap.size, 0, none⟩) [258, 3]) := ints_block .u16 w 114 (0, 0) [258, 3] _ rfl (by decide)
  go_enter Try.func28, Try.ntmps28
  go_wp2_with fail
  refine (put2 _ _ 2 [258, 3] _ rfl (by decide) hA1.out).mono ?_
  rintro e w1 ⟨v1, rfl, ho1, hb1⟩
  have hb1' : Hid (Below w.heap.size w w1) := ((Below.refl _ _).alloc (Nat.le_refl _) _).trans (hb1.mono (by simp))
  have hO1 := hid ho1
  clear ho1 hb1
  have hA2 : Hid (Ints .u8 (w1.alloc (.cells #[.int .u8 1, .int .u8 0, .int .u8 0, .int .u8 2] 5)) (some ⟨w1.heap.size, 0, none⟩) [1, 0, 0, 2]) := ints_block .u8 w1 5 (0, 0) [1, 0, 0, 2] _ rfl (by decide)
  go_wp2_with fail
  refine (at4 _ _ 4 [1, 0, 0, 2] 0 _ rfl (by decide) (by decide) hA2.out (by decide)).mono ?_
  rintro e w' ⟨rfl, rfl⟩
  rw [hn.out]
  have hA3 : Hid (Ints .u8 ((w1.alloc (.cells #[.int .u8 1, .int .u8 0, .int .u8 0, .int .u8 2] 5)).alloc (.cells #[.int .u8 2, .int .u8 1, .int .u8 3, .int .u8 0] 5)) (some ⟨(w1.alloc (.cells #[.int .u8 1, .int .u8 0, .int .u8 0, .int .u8 2] 5)).heap.size, 0, none⟩) [2, 1, 3, 0]) := ints_block .u8 _ 5 (0, 0) [2, 1, 3, 0] _ rfl (by decide)
  rw [World.size_alloc] at hA3
  rw [hp.out] at hO1
  obtain ⟨ao, c, hv, hI, -⟩ := ints_of_own hO1.out (by decide)
  subst hv
  have hI1 := hid hI
  clear hI
  have hI2 := hid ((hI1.out.mono ((Below.refl _ _).alloc (Nat.le_refl _) (.cells #[.int .u8 1, .int .u8 0, .int .u8 0, .int .u8 2] 5))).mono ((Below.refl _ _).alloc (Nat.le_refl _) (.cells #[.int .u8 2, .int .u8 1, .int .u8 3, .int .u8 0] 5)))
  go_wp2_with fail
  refine (same_any _ _ c [2, 1, 3, 0] _ _ 4 [2, 1, 3, 0] _ rfl rfl (by decide) hI2.out hA3.out).mono ?_
  rintro e w3 ⟨rfl, q, rfl⟩
  have hd := hid (show decide (([2, 1, 3, 0] : List Int) = [2, 1, 3, 0]) = true from by decide)
  rw [hd.out]
  go_wp2_with fail
  go_ret
  exact ⟨rfl, below_drewN' ((hb1'.out.alloc hb1'.out.size _).alloc (by have := hb1'.out.size; simp; omega) _) _⟩


set_option maxHeartbeats 2000000 in
set_option maxRecDepth 100000 in
theorem over1 (w : World) (ao : Option Addr) (cap : Nat) (l : List Int) (hi : Ints .u8 w ao l) (hcap : l.length ≤ cap) (at_ : Int) (hat : -9223372036854775808 ≤ at_ ∧ at_ ≤ 9223372036854775807) (x : Int) (hx : 0 ≤ x ∧ x ≤ 18446744073709551615) (y : Int) (hy : -9223372036854775808 ≤ y ∧ y ≤ 9223372036854775807) (hw : wid y = 1)
    (hl : l.length ≤ 140737488351232) :
    Calls Try.prog 8 #[.slice ao l.length cap, .int .i64 at_, .int .u64 x, .int .i64 y] w fun e w' => e = .returned (.bool true) ∧ Below w.heap.size w w' := by
  have hI := hid hi
  clear hi
  have hW := hid hw
  clear hw
  by_cases hok : 0 ≤ at_ ∧ at_ + 1 ≤ (l.length : Int)
  · obtain ⟨k, rfl⟩ := Int.eq_ofNat_of_zero_le hok.1
    have hk : k + 1 ≤ l.length := by omega
    have hk2 : (k : Int) ≤ (l.length : Int) - 1 := by omega
    clear hok
    have hbyt := hid (byt_of_ints hI.out)
    obtain ⟨xm, hxm⟩ : ∃ xm, xm = x % 256 ^ 1 := ⟨_, rfl⟩
    have hXm := hid hxm
    have hxb : Hid (0 ≤ xm ∧ xm < 256 ^ 1) := by unfold Hid; omega
    clear hxm
    go_enter Try.func8, Try.ntmps8
    go_wp2_with fail
    refine (lives_any _).mono ?_
    rintro e w1 ⟨rfl, hb1⟩
    have hB1 := hid hb1
    have hI1 := hid (hI.out.mono hb1)
    clear hb1
    go_wp2_with fail
    refine (width_any _ _ hy).mono ?_
    rintro e w' ⟨rfl, rfl⟩
    rw [hW.out]
    go_wp2_with fail
    refine (lat1 _ _ _ l k _ rfl hl hcap hI1.out hk).mono ?_
    rintro e w' ⟨rfl, rfl⟩
    have hnb : Hid (0 ≤ num ((l.drop k).take 1) ∧ num ((l.drop k).take 1) < 256 ^ 1) := by
      have h1 := num_bd ((l.drop k).take 1) (fun b hb => hbyt.out b (List.mem_of_mem_drop (List.mem_of_mem_take hb)))
      have h2 : ((l.drop k).take 1).length = 1 := by rw [List.length_take, List.length_drop]; omega
      rw [h2] at h1
      exact h1
    obtain ⟨old, hold⟩ : ∃ old, old = num ((l.drop k).take 1) := ⟨_, rfl⟩
    have hOld := hid hold
    clear hold
    rw [← hOld.out] at hnb ⊢
    go_wp2_with fail
    refine (lwith1 _ _ _ l k x _ rfl hl hcap hI1.out hx hk).mono ?_
    rintro e w2 ⟨v2, rfl, ho2, hb2⟩
    rw [← hXm.out] at ho2
    have hlen := hid (withL_len 1 l k xm hk)
    have hby2 := hid (withL_byt 1 l k xm hbyt.out)
    have hAt := hid (with_at 1 l k xm hk hxb.out)
    have hBack := hid (with_back 1 l k xm hk hbyt.out)
    rw [← hOld.out] at hBack
    obtain ⟨L2, hL2⟩ : ∃ L2, L2 = withL 1 l k xm := ⟨_, rfl⟩
    have hLL := hid hL2
    clear hL2
    rw [← hLL.out] at ho2 hlen hby2 hAt hBack
    obtain ⟨ao2, cap2, hv2, hI2, -, hc2, -⟩ := ints_of_own ho2 (ints_of_byt hby2.out)
    subst hv2
    have hI2' := hid hI2
    have hB2 := hid (hB1.out.trans (hb2.mono hB1.out.size))
    have hI3 := hid (hI1.out.mono hb2)
    have hk3 : k + 1 ≤ L2.length := by rw [hlen.out]; exact hk
    have hl2 : L2.length ≤ 140737488351232 := by rw [hlen.out]; exact hl
    clear ho2 hI2 hb2
    go_wp2_with fail
    refine (lat1 _ _ _ L2 k _ rfl hl2 hc2 hI2'.out hk3).mono ?_
    rintro e w' ⟨rfl, rfl⟩
    rw [hAt.out]
    go_wp2_with fail
    refine (lwith1 _ _ _ L2 k old _ rfl hl2 hc2 hI2'.out (by have := hnb.out; omega) hk3).mono ?_
    rintro e w3 ⟨v3, rfl, ho3, hb3⟩
    have hom : old % 256 ^ 1 = old := by have := hnb.out; omega
    rw [hom, hBack.out] at ho3
    clear hom
    have hB3 := hid (hB2.out.trans (hb3.mono hB2.out.size))
    have hI4 := hid (hI3.out.mono hb3)
    obtain ⟨ao3, cap3, hv3, hI5, -⟩ := ints_of_own ho3 (ints_of_byt hbyt.out)
    subst hv3
    have hI6 := hid hI5
    clear ho3 hb3 hI5
    have hOx : Hid (Ints .u64 (w3.alloc (.cells #[.int .u64 x] 46)) (some ⟨w3.heap.size, 0, none⟩) [x]) := ints_block .u64 w3 46 (0, 0) [x] _ rfl (by intro z hz; simp at hz; subst hz; exact wf_u64.2 hx)
    go_wp2_with fail
    refine (cut1 _ _ 1 [x] _ rfl (by simp) hOx.out).mono ?_
    rintro e w4 ⟨v4, rfl, ho4, hb4⟩
    obtain ⟨g4, c4, hv4, hg41, hg42, hn4, hm4⟩ := own_shape ho4 (by simp)
    subst hv4
    have hcl : w4.cell? ⟨g4, 0, none⟩ = some (.int .u64 xm) := by
      rw [ho4.cellAt 0 (by simp), hXm.out]; simp [cutL]
    have hI7 := hid ((hI4.out.mono ((Below.refl _ _).alloc (Nat.le_refl _) _)).mono hb4)
    have hI8 := hid ((hI6.out.mono ((Below.refl _ _).alloc (Nat.le_refl _) _)).mono hb4)
    have hB4 : Hid (Below w.heap.size w w4) := (hB3.out.alloc hB3.out.size _).trans (hb4.mono (by have := hB3.out.size; simp; omega))
    have hlow : ((0 : Nat) : Int) < ((1 : Nat) : Int) := by decide
    have hlow' : (0 : Int) < (1 : Int) := by decide
    clear ho4 hb4 hm4
    have hxx : (xm == xm) = true := beq_self_eq_true xm
    go_wp2_with fail
    refine (same_any _ _ cap3 l _ _ cap l _ rfl rfl (by omega) hI8.out hI7.out).mono ?_
    rintro e w5 ⟨rfl, q, rfl⟩
    have hd := hid (show decide (l = l) = true from by simp)
    rw [hd.out]
    go_wp2_with fail
    go_ret
    exact ⟨rfl, below_drewN' hB4.out q⟩
  · have hno := hid hok
    have htest : (decide (0 ≤ at_) && decide (at_ ≤ (l.length : Int) - 1)) = false := by
      rw [Bool.and_eq_false_iff, decide_eq_false_iff_not, decide_eq_false_iff_not]
      by_cases h0 : 0 ≤ at_
      · exact .inr (fun h => hok ⟨h0, by omega⟩)
      · exact .inl h0
    by_cases h0 : 0 ≤ at_
    · have h1 : ¬ at_ ≤ (l.length : Int) - 1 := by omega
      clear hok htest
      go_enter Try.func8, Try.ntmps8
      go_wp2_with fail
      refine (lives_any _).mono ?_
      rintro e w1 ⟨rfl, hb1⟩
      have hB1 := hid hb1
      have hI1 := hid (hI.out.mono hb1)
      clear hb1
      go_wp2_with fail
      refine (width_any _ _ hy).mono ?_
      rintro e w' ⟨rfl, rfl⟩
      rw [hW.out]
      go_wp2_with fail
      refine (latNo1 _ _ _ _ _ hat (by omega) hno.out).mono ?_
      rintro e w' ⟨rfl, rfl⟩
      go_wp2_with fail
      refine (lwithNo1 _ _ _ _ _ _ hat (by omega) hno.out hx).mono ?_
      rintro e w' ⟨rfl, rfl⟩
      go_wp2_with fail
      go_ret
      exact ⟨rfl, hB1.out⟩
    · clear hok htest
      go_enter Try.func8, Try.ntmps8
      go_wp2_with fail
      refine (lives_any _).mono ?_
      rintro e w1 ⟨rfl, hb1⟩
      have hB1 := hid hb1
      have hI1 := hid (hI.out.mono hb1)
      clear hb1
      go_wp2_with fail
      refine (width_any _ _ hy).mono ?_
      rintro e w' ⟨rfl, rfl⟩
      rw [hW.out]
      go_wp2_with fail
      refine (latNo1 _ _ _ _ _ hat (by omega) hno.out).mono ?_
      rintro e w' ⟨rfl, rfl⟩
      go_wp2_with fail
      refine (lwithNo1 _ _ _ _ _ _ hat (by omega) hno.out hx).mono ?_
      rintro e w' ⟨rfl, rfl⟩
      go_wp2_with fail
      go_ret
      exact ⟨rfl, hB1.out⟩


set_option maxHeartbeats 2000000 in
set_option maxRecDepth 100000 in
theorem over2 (w : World) (ao : Option Addr) (cap : Nat) (l : List Int) (hi : Ints .u8 w ao l) (hcap : l.length ≤ cap) (at_ : Int) (hat : -9223372036854775808 ≤ at_ ∧ at_ ≤ 9223372036854775807) (x : Int) (hx : 0 ≤ x ∧ x ≤ 18446744073709551615) (y : Int) (hy : -9223372036854775808 ≤ y ∧ y ≤ 9223372036854775807) (hw : wid y = 2)
    (hl : l.length ≤ 140737488351232) :
    Calls Try.prog 8 #[.slice ao l.length cap, .int .i64 at_, .int .u64 x, .int .i64 y] w fun e w' => e = .returned (.bool true) ∧ Below w.heap.size w w' := by
  have hI := hid hi
  clear hi
  have hW := hid hw
  clear hw
  by_cases hok : 0 ≤ at_ ∧ at_ + 2 ≤ (l.length : Int)
  · obtain ⟨k, rfl⟩ := Int.eq_ofNat_of_zero_le hok.1
    have hk : k + 2 ≤ l.length := by omega
    have hk2 : (k : Int) ≤ (l.length : Int) - 2 := by omega
    clear hok
    have hbyt := hid (byt_of_ints hI.out)
    obtain ⟨xm, hxm⟩ : ∃ xm, xm = x % 256 ^ 2 := ⟨_, rfl⟩
    have hXm := hid hxm
    have hxb : Hid (0 ≤ xm ∧ xm < 256 ^ 2) := by unfold Hid; omega
    clear hxm
    go_enter Try.func8, Try.ntmps8
    go_wp2_with fail
    refine (lives_any _).mono ?_
    rintro e w1 ⟨rfl, hb1⟩
    have hB1 := hid hb1
    have hI1 := hid (hI.out.mono hb1)
    clear hb1
    go_wp2_with fail
    refine (width_any _ _ hy).mono ?_
    rintro e w' ⟨rfl, rfl⟩
    rw [hW.out]
    go_wp2_with fail
    refine (lat2 _ _ _ l k _ rfl hl hcap hI1.out hk).mono ?_
    rintro e w' ⟨rfl, rfl⟩
    have hnb : Hid (0 ≤ num ((l.drop k).take 2) ∧ num ((l.drop k).take 2) < 256 ^ 2) := by
      have h1 := num_bd ((l.drop k).take 2) (fun b hb => hbyt.out b (List.mem_of_mem_drop (List.mem_of_mem_take hb)))
      have h2 : ((l.drop k).take 2).length = 2 := by rw [List.length_take, List.length_drop]; omega
      rw [h2] at h1
      exact h1
    obtain ⟨old, hold⟩ : ∃ old, old = num ((l.drop k).take 2) := ⟨_, rfl⟩
    have hOld := hid hold
    clear hold
    rw [← hOld.out] at hnb ⊢
    go_wp2_with fail
    refine (lwith2 _ _ _ l k x _ rfl hl hcap hI1.out hx hk).mono ?_
    rintro e w2 ⟨v2, rfl, ho2, hb2⟩
    rw [← hXm.out] at ho2
    have hlen := hid (withL_len 2 l k xm hk)
    have hby2 := hid (withL_byt 2 l k xm hbyt.out)
    have hAt := hid (with_at 2 l k xm hk hxb.out)
    have hBack := hid (with_back 2 l k xm hk hbyt.out)
    rw [← hOld.out] at hBack
    obtain ⟨L2, hL2⟩ : ∃ L2, L2 = withL 2 l k xm := ⟨_, rfl⟩
    have hLL := hid hL2
    clear hL2
    rw [← hLL.out] at ho2 hlen hby2 hAt hBack
    obtain ⟨ao2, cap2, hv2, hI2, -, hc2, -⟩ := ints_of_own ho2 (ints_of_byt hby2.out)
    subst hv2
    have hI2' := hid hI2
    have hB2 := hid (hB1.out.trans (hb2.mono hB1.out.size))
    have hI3 := hid (hI1.out.mono hb2)
    have hk3 : k + 2 ≤ L2.length := by rw [hlen.out]; exact hk
    have hl2 : L2.length ≤ 140737488351232 := by rw [hlen.out]; exact hl
    clear ho2 hI2 hb2
    go_wp2_with fail
    refine (lat2 _ _ _ L2 k _ rfl hl2 hc2 hI2'.out hk3).mono ?_
    rintro e w' ⟨rfl, rfl⟩
    rw [hAt.out]
    go_wp2_with fail
    refine (lwith2 _ _ _ L2 k old _ rfl hl2 hc2 hI2'.out (by have := hnb.out; omega) hk3).mono ?_
    rintro e w3 ⟨v3, rfl, ho3, hb3⟩
    have hom : old % 256 ^ 2 = old := by have := hnb.out; omega
    rw [hom, hBack.out] at ho3
    clear hom
    have hB3 := hid (hB2.out.trans (hb3.mono hB2.out.size))
    have hI4 := hid (hI3.out.mono hb3)
    obtain ⟨ao3, cap3, hv3, hI5, -⟩ := ints_of_own ho3 (ints_of_byt hbyt.out)
    subst hv3
    have hI6 := hid hI5
    clear ho3 hb3 hI5
    have hOx : Hid (Ints .u64 (w3.alloc (.cells #[.int .u64 x] 46)) (some ⟨w3.heap.size, 0, none⟩) [x]) := ints_block .u64 w3 46 (0, 0) [x] _ rfl (by intro z hz; simp at hz; subst hz; exact wf_u64.2 hx)
    go_wp2_with fail
    refine (cut2 _ _ 1 [x] _ rfl (by simp) hOx.out).mono ?_
    rintro e w4 ⟨v4, rfl, ho4, hb4⟩
    obtain ⟨g4, c4, hv4, hg41, hg42, hn4, hm4⟩ := own_shape ho4 (by simp)
    subst hv4
    have hcl : w4.cell? ⟨g4, 0, none⟩ = some (.int .u64 xm) := by
      rw [ho4.cellAt 0 (by simp), hXm.out]; simp [cutL]
    have hI7 := hid ((hI4.out.mono ((Below.refl _ _).alloc (Nat.le_refl _) _)).mono hb4)
    have hI8 := hid ((hI6.out.mono ((Below.refl _ _).alloc (Nat.le_refl _) _)).mono hb4)
    have hB4 : Hid (Below w.heap.size w w4) := (hB3.out.alloc hB3.out.size _).trans (hb4.mono (by have := hB3.out.size; simp; omega))
    have hlow : ((0 : Nat) : Int) < ((1 : Nat) : Int) := by decide
    have hlow' : (0 : Int) < (1 : Int) := by decide
    clear ho4 hb4 hm4
    have hxx : (xm == xm) = true := beq_self_eq_true xm
    go_wp2_with fail
    refine (same_any _ _ cap3 l _ _ cap l _ rfl rfl (by omega) hI8.out hI7.out).mono ?_
    rintro e w5 ⟨rfl, q, rfl⟩
    have hd := hid (show decide (l = l) = true from by simp)
    rw [hd.out]
    go_wp2_with fail
    go_ret
    exact ⟨rfl, below_drewN' hB4.out q⟩
  · have hno := hid hok
    have htest : (decide (0 ≤ at_) && decide (at_ ≤ (l.length : Int) - 2)) = false := by
      rw [Bool.and_eq_false_iff, decide_eq_false_iff_not, decide_eq_false_iff_not]
      by_cases h0 : 0 ≤ at_
      · exact .inr (fun h => hok ⟨h0, by omega⟩)
      · exact .inl h0
    by_cases h0 : 0 ≤ at_
    · have h1 : ¬ at_ ≤ (l.length : Int) - 2 := by omega
      clear hok htest
      go_enter Try.func8, Try.ntmps8
      go_wp2_with fail
      refine (lives_any _).mono ?_
      rintro e w1 ⟨rfl, hb1⟩
      have hB1 := hid hb1
      have hI1 := hid (hI.out.mono hb1)
      clear hb1
      go_wp2_with fail
      refine (width_any _ _ hy).mono ?_
      rintro e w' ⟨rfl, rfl⟩
      rw [hW.out]
      go_wp2_with fail
      refine (latNo2 _ _ _ _ _ hat (by omega) hno.out).mono ?_
      rintro e w' ⟨rfl, rfl⟩
      go_wp2_with fail
      refine (lwithNo2 _ _ _ _ _ _ hat (by omega) hno.out hx).mono ?_
      rintro e w' ⟨rfl, rfl⟩
      go_wp2_with fail
      go_ret
      exact ⟨rfl, hB1.out⟩
    · clear hok htest
      go_enter Try.func8, Try.ntmps8
      go_wp2_with fail
      refine (lives_any _).mono ?_
      rintro e w1 ⟨rfl, hb1⟩
      have hB1 := hid hb1
      have hI1 := hid (hI.out.mono hb1)
      clear hb1
      go_wp2_with fail
      refine (width_any _ _ hy).mono ?_
      rintro e w' ⟨rfl, rfl⟩
      rw [hW.out]
      go_wp2_with fail
      refine (latNo2 _ _ _ _ _ hat (by omega) hno.out).mono ?_
      rintro e w' ⟨rfl, rfl⟩
      go_wp2_with fail
      refine (lwithNo2 _ _ _ _ _ _ hat (by omega) hno.out hx).mono ?_
      rintro e w' ⟨rfl, rfl⟩
      go_wp2_with fail
      go_ret
      exact ⟨rfl, hB1.out⟩


set_option maxHeartbeats 2000000 in
set_option maxRecDepth 100000 in
theorem over4 (w : World) (ao : Option Addr) (cap : Nat) (l : List Int) (hi : Ints .u8 w ao l) (hcap : l.length ≤ cap) (at_ : Int) (hat : -9223372036854775808 ≤ at_ ∧ at_ ≤ 9223372036854775807) (x : Int) (hx : 0 ≤ x ∧ x ≤ 18446744073709551615) (y : Int) (hy : -9223372036854775808 ≤ y ∧ y ≤ 9223372036854775807) (hw : wid y = 4)
    (hl : l.length ≤ 140737488351232) :
    Calls Try.prog 8 #[.slice ao l.length cap, .int .i64 at_, .int .u64 x, .int .i64 y] w fun e w' => e = .returned (.bool true) ∧ Below w.heap.size w w' := by
  have hI := hid hi
  clear hi
  have hW := hid hw
  clear hw
  by_cases hok : 0 ≤ at_ ∧ at_ + 4 ≤ (l.length : Int)
  · obtain ⟨k, rfl⟩ := Int.eq_ofNat_of_zero_le hok.1
    have hk : k + 4 ≤ l.length := by omega
    have hk2 : (k : Int) ≤ (l.length : Int) - 4 := by omega
    clear hok
    have hbyt := hid (byt_of_ints hI.out)
    obtain ⟨xm, hxm⟩ : ∃ xm, xm = x % 256 ^ 4 := ⟨_, rfl⟩
    have hXm := hid hxm
    have hxb : Hid (0 ≤ xm ∧ xm < 256 ^ 4) := by unfold Hid; omega
    clear hxm
    go_enter Try.func8, Try.ntmps8
    go_wp2_with fail
    refine (lives_any _).mono ?_
    rintro e w1 ⟨rfl, hb1⟩
    have hB1 := hid hb1
    have hI1 := hid (hI.out.mono hb1)
    clear hb1
    go_wp2_with fail
    refine (width_any _ _ hy).mono ?_
    rintro e w' ⟨rfl, rfl⟩
    rw [hW.out]
    go_wp2_with fail
    refine (lat4 _ _ _ l k _ rfl hl hcap hI1.out hk).mono ?_
    rintro e w' ⟨rfl, rfl⟩
    have hnb : Hid (0 ≤ num ((l.drop k).take 4) ∧ num ((l.drop k).take 4) < 256 ^ 4) := by
      have h1 := num_bd ((l.drop k).take 4) (fun b hb => hbyt.out b (List.mem_of_mem_drop (List.mem_of_mem_take hb)))
      have h2 : ((l.drop k).take 4).length = 4 := by rw [List.length_take, List.length_drop]; omega
      rw [h2] at h1
      exact h1
    obtain ⟨old, hold⟩ : ∃ old, old = num ((l.drop k).take 4) := ⟨_, rfl⟩
    have hOld := hid hold
    clear hold
    rw [← hOld.out] at hnb ⊢
    go_wp2_with fail
    refine (lwith4 _ _ _ l k x _ rfl hl hcap hI1.out hx hk).mono ?_
    rintro e w2 ⟨v2, rfl, ho2, hb2⟩
    rw [← hXm.out] at ho2
    have hlen := hid (withL_len 4 l k xm hk)
    have hby2 := hid (withL_byt 4 l k xm hbyt.out)
    have hAt := hid (with_at 4 l k xm hk hxb.out)
    have hBack := hid (with_back 4 l k xm hk hbyt.out)
    rw [← hOld.out] at hBack
    obtain ⟨L2, hL2⟩ : ∃ L2, L2 = withL 4 l k xm := ⟨_, rfl⟩
    have hLL := hid hL2
    clear hL2
    rw [← hLL.out] at ho2 hlen hby2 hAt hBack
    obtain ⟨ao2, cap2, hv2, hI2, -, hc2, -⟩ := ints_of_own ho2 (ints_of_byt hby2.out)
    subst hv2
    have hI2' := hid hI2
    have hB2 := hid (hB1.out.trans (hb2.mono hB1.out.size))
    have hI3 := hid (hI1.out.mono hb2)
    have hk3 : k + 4 ≤ L2.length := by rw [hlen.out]; exact hk
    have hl2 : L2.length ≤ 140737488351232 := by rw [hlen.out]; exact hl
    clear ho2 hI2 hb2
    go_wp2_with fail
    refine (lat4 _ _ _ L2 k _ rfl hl2 hc2 hI2'.out hk3).mono ?_
    rintro e w' ⟨rfl, rfl⟩
    rw [hAt.out]
    go_wp2_with fail
    refine (lwith4 _ _ _ L2 k old _ rfl hl2 hc2 hI2'.out (by have := hnb.out; omega) hk3).mono ?_
    rintro e w3 ⟨v3, rfl, ho3, hb3⟩
    have hom : old % 256 ^ 4 = old := by have := hnb.out; omega
    rw [hom, hBack.out] at ho3
    clear hom
    have hB3 := hid (hB2.out.trans (hb3.mono hB2.out.size))
    have hI4 := hid (hI3.out.mono hb3)
    obtain ⟨ao3, cap3, hv3, hI5, -⟩ := ints_of_own ho3 (ints_of_byt hbyt.out)
    subst hv3
    have hI6 := hid hI5
    clear ho3 hb3 hI5
    have hOx : Hid (Ints .u64 (w3.alloc (.cells #[.int .u64 x] 46)) (some ⟨w3.heap.size, 0, none⟩) [x]) := ints_block .u64 w3 46 (0, 0) [x] _ rfl (by intro z hz; simp at hz; subst hz; exact wf_u64.2 hx)
    go_wp2_with fail
    refine (cut4 _ _ 1 [x] _ rfl (by simp) hOx.out).mono ?_
    rintro e w4 ⟨v4, rfl, ho4, hb4⟩
    obtain ⟨g4, c4, hv4, hg41, hg42, hn4, hm4⟩ := own_shape ho4 (by simp)
    subst hv4
    have hcl : w4.cell? ⟨g4, 0, none⟩ = some (.int .u64 xm) := by
      rw [ho4.cellAt 0 (by simp), hXm.out]; simp [cutL]
    have hI7 := hid ((hI4.out.mono ((Below.refl _ _).alloc (Nat.le_refl _) _)).mono hb4)
    have hI8 := hid ((hI6.out.mono ((Below.refl _ _).alloc (Nat.le_refl _) _)).mono hb4)
    have hB4 : Hid (Below w.heap.size w w4) := (hB3.out.alloc hB3.out.size _).trans (hb4.mono (by have := hB3.out.size; simp; omega))
    have hlow : ((0 : Nat) : Int) < ((1 : Nat) : Int) := by decide
    have hlow' : (0 : Int) < (1 : Int) := by decide
    clear ho4 hb4 hm4
    have hxx : (xm == xm) = true := beq_self_eq_true xm
    go_wp2_with fail
    refine (same_any _ _ cap3 l _ _ cap l _ rfl rfl (by omega) hI8.out hI7.out).mono ?_
    rintro e w5 ⟨rfl, q, rfl⟩
    have hd := hid (show decide (l = l) = true from by simp)
    rw [hd.out]
    go_wp2_with fail
    go_ret
    exact ⟨rfl, below_drewN' hB4.out q⟩
  · have hno := hid hok
    have htest : (decide (0 ≤ at_) && decide (at_ ≤ (l.length : Int) - 4)) = false := by
      rw [Bool.and_eq_false_iff, decide_eq_false_iff_not, decide_eq_false_iff_not]
      by_cases h0 : 0 ≤ at_
      · exact .inr (fun h => hok ⟨h0, by omega⟩)
      · exact .inl h0
    by_cases h0 : 0 ≤ at_
    · have h1 : ¬ at_ ≤ (l.length : Int) - 4 := by omega
      clear hok htest
      go_enter Try.func8, Try.ntmps8
      go_wp2_with fail
      refine (lives_any _).mono ?_
      rintro e w1 ⟨rfl, hb1⟩
      have hB1 := hid hb1
      have hI1 := hid (hI.out.mono hb1)
      clear hb1
      go_wp2_with fail
      refine (width_any _ _ hy).mono ?_
      rintro e w' ⟨rfl, rfl⟩
      rw [hW.out]
      go_wp2_with fail
      refine (latNo4 _ _ _ _ _ hat (by omega) hno.out).mono ?_
      rintro e w' ⟨rfl, rfl⟩
      go_wp2_with fail
      refine (lwithNo4 _ _ _ _ _ _ hat (by omega) hno.out hx).mono ?_
      rintro e w' ⟨rfl, rfl⟩
      go_wp2_with fail
      go_ret
      exact ⟨rfl, hB1.out⟩
    · clear hok htest
      go_enter Try.func8, Try.ntmps8
      go_wp2_with fail
      refine (lives_any _).mono ?_
      rintro e w1 ⟨rfl, hb1⟩
      have hB1 := hid hb1
      have hI1 := hid (hI.out.mono hb1)
      clear hb1
      go_wp2_with fail
      refine (width_any _ _ hy).mono ?_
      rintro e w' ⟨rfl, rfl⟩
      rw [hW.out]
      go_wp2_with fail
      refine (latNo4 _ _ _ _ _ hat (by omega) hno.out).mono ?_
      rintro e w' ⟨rfl, rfl⟩
      go_wp2_with fail
      refine (lwithNo4 _ _ _ _ _ _ hat (by omega) hno.out hx).mono ?_
      rintro e w' ⟨rfl, rfl⟩
      go_wp2_with fail
      go_ret
      exact ⟨rfl, hB1.out⟩


set_option maxHeartbeats 2000000 in
set_option maxRecDepth 100000 in
theorem over8 (w : World) (ao : Option Addr) (cap : Nat) (l : List Int) (hi : Ints .u8 w ao l) (hcap : l.length ≤ cap) (at_ : Int) (hat : -9223372036854775808 ≤ at_ ∧ at_ ≤ 9223372036854775807) (x : Int) (hx : 0 ≤ x ∧ x ≤ 18446744073709551615) (y : Int) (hy : -9223372036854775808 ≤ y ∧ y ≤ 9223372036854775807) (hw : wid y = 8)
    (hl : l.length ≤ 140737488351232) :
    Calls Try.prog 8 #[.slice ao l.length cap, .int .i64 at_, .int .u64 x, .int .i64 y] w fun e w' => e = .returned (.bool true) ∧ Below w.heap.size w w' := by
  have hI := hid hi
  clear hi
  have hW := hid hw
  clear hw
  by_cases hok : 0 ≤ at_ ∧ at_ + 8 ≤ (l.length : Int)
  · obtain ⟨k, rfl⟩ := Int.eq_ofNat_of_zero_le hok.1
    have hk : k + 8 ≤ l.length := by omega
    have hk2 : (k : Int) ≤ (l.length : Int) - 8 := by omega
    clear hok
    have hbyt := hid (byt_of_ints hI.out)
    obtain ⟨xm, hxm⟩ : ∃ xm, xm = x % 256 ^ 8 := ⟨_, rfl⟩
    have hXm := hid hxm
    have hxb : Hid (0 ≤ xm ∧ xm < 256 ^ 8) := by unfold Hid; omega
    clear hxm
    go_enter Try.func8, Try.ntmps8
    go_wp2_with fail
    refine (lives_any _).mono ?_
    rintro e w1 ⟨rfl, hb1⟩
    have hB1 := hid hb1
    have hI1 := hid (hI.out.mono hb1)
    clear hb1
    go_wp2_with fail
    refine (width_any _ _ hy).mono ?_
    rintro e w' ⟨rfl, rfl⟩
    rw [hW.out]
    go_wp2_with fail
    refine (lat8 _ _ _ l k _ rfl hl hcap hI1.out hk).mono ?_
    rintro e w' ⟨rfl, rfl⟩
    have hnb : Hid (0 ≤ num ((l.drop k).take 8) ∧ num ((l.drop k).take 8) < 256 ^ 8) := by
      have h1 := num_bd ((l.drop k).take 8) (fun b hb => hbyt.out b (List.mem_of_mem_drop (List.mem_of_mem_take hb)))
      have h2 : ((l.drop k).take 8).length = 8 := by rw [List.length_take, List.length_drop]; omega
      rw [h2] at h1
      exact h1
    obtain ⟨old, hold⟩ : ∃ old, old = num ((l.drop k).take 8) := ⟨_, rfl⟩
    have hOld := hid hold
    clear hold
    rw [← hOld.out] at hnb ⊢
    go_wp2_with fail
    refine (lwith8 _ _ _ l k x _ rfl hl hcap hI1.out hx hk).mono ?_
    rintro e w2 ⟨v2, rfl, ho2, hb2⟩
    rw [← hXm.out] at ho2
    have hlen := hid (withL_len 8 l k xm hk)
    have hby2 := hid (withL_byt 8 l k xm hbyt.out)
    have hAt := hid (with_at 8 l k xm hk hxb.out)
    have hBack := hid (with_back 8 l k xm hk hbyt.out)
    rw [← hOld.out] at hBack
    obtain ⟨L2, hL2⟩ : ∃ L2, L2 = withL 8 l k xm := ⟨_, rfl⟩
    have hLL := hid hL2
    clear hL2
    rw [← hLL.out] at ho2 hlen hby2 hAt hBack
    obtain ⟨ao2, cap2, hv2, hI2, -, hc2, -⟩ := ints_of_own ho2 (ints_of_byt hby2.out)
    subst hv2
    have hI2' := hid hI2
    have hB2 := hid (hB1.out.trans (hb2.mono hB1.out.size))
    have hI3 := hid (hI1.out.mono hb2)
    have hk3 : k + 8 ≤ L2.length := by rw [hlen.out]; exact hk
    have hl2 : L2.length ≤ 140737488351232 := by rw [hlen.out]; exact hl
    clear ho2 hI2 hb2
    go_wp2_with fail
    refine (lat8 _ _ _ L2 k _ rfl hl2 hc2 hI2'.out hk3).mono ?_
    rintro e w' ⟨rfl, rfl⟩
    rw [hAt.out]
    go_wp2_with fail
    refine (lwith8 _ _ _ L2 k old _ rfl hl2 hc2 hI2'.out (by have := hnb.out; omega) hk3).mono ?_
    rintro e w3 ⟨v3, rfl, ho3, hb3⟩
    have hom : old % 256 ^ 8 = old := by have := hnb.out; omega
    rw [hom, hBack.out] at ho3
    clear hom
    have hB3 := hid (hB2.out.trans (hb3.mono hB2.out.size))
    have hI4 := hid (hI3.out.mono hb3)
    obtain ⟨ao3, cap3, hv3, hI5, -⟩ := ints_of_own ho3 (ints_of_byt hbyt.out)
    subst hv3
    have hI6 := hid hI5
    clear ho3 hb3 hI5
    have hOx : Hid (Ints .u64 (w3.alloc (.cells #[.int .u64 x] 46)) (some ⟨w3.heap.size, 0, none⟩) [x]) := ints_block .u64 w3 46 (0, 0) [x] _ rfl (by intro z hz; simp at hz; subst hz; exact wf_u64.2 hx)
    go_wp2_with fail
    refine (cut8 _ _ 1 [x] _ rfl (by simp) hOx.out).mono ?_
    rintro e w4 ⟨v4, rfl, ho4, hb4⟩
    obtain ⟨g4, c4, hv4, hg41, hg42, hn4, hm4⟩ := own_shape ho4 (by simp)
    subst hv4
    have hcl : w4.cell? ⟨g4, 0, none⟩ = some (.int .u64 xm) := by
      rw [ho4.cellAt 0 (by simp), hXm.out]; simp [cutL]
    have hI7 := hid ((hI4.out.mono ((Below.refl _ _).alloc (Nat.le_refl _) _)).mono hb4)
    have hI8 := hid ((hI6.out.mono ((Below.refl _ _).alloc (Nat.le_refl _) _)).mono hb4)
    have hB4 : Hid (Below w.heap.size w w4) := (hB3.out.alloc hB3.out.size _).trans (hb4.mono (by have := hB3.out.size; simp; omega))
    have hlow : ((0 : Nat) : Int) < ((1 : Nat) : Int) := by decide
    have hlow' : (0 : Int) < (1 : Int) := by decide
    clear ho4 hb4 hm4
    have hxx : (xm == xm) = true := beq_self_eq_true xm
    go_wp2_with fail
    refine (same_any _ _ cap3 l _ _ cap l _ rfl rfl (by omega) hI8.out hI7.out).mono ?_
    rintro e w5 ⟨rfl, q, rfl⟩
    have hd := hid (show decide (l = l) = true from by simp)
    rw [hd.out]
    go_wp2_with fail
    go_ret
    exact ⟨rfl, below_drewN' hB4.out q⟩
  · have hno := hid hok
    have htest : (decide (0 ≤ at_) && decide (at_ ≤ (l.length : Int) - 8)) = false := by
      rw [Bool.and_eq_false_iff, decide_eq_false_iff_not, decide_eq_false_iff_not]
      by_cases h0 : 0 ≤ at_
      · exact .inr (fun h => hok ⟨h0, by omega⟩)
      · exact .inl h0
    by_cases h0 : 0 ≤ at_
    · have h1 : ¬ at_ ≤ (l.length : Int) - 8 := by omega
      clear hok htest
      go_enter Try.func8, Try.ntmps8
      go_wp2_with fail
      refine (lives_any _).mono ?_
      rintro e w1 ⟨rfl, hb1⟩
      have hB1 := hid hb1
      have hI1 := hid (hI.out.mono hb1)
      clear hb1
      go_wp2_with fail
      refine (width_any _ _ hy).mono ?_
      rintro e w' ⟨rfl, rfl⟩
      rw [hW.out]
      go_wp2_with fail
      refine (latNo8 _ _ _ _ _ hat (by omega) hno.out).mono ?_
      rintro e w' ⟨rfl, rfl⟩
      go_wp2_with fail
      refine (lwithNo8 _ _ _ _ _ _ hat (by omega) hno.out hx).mono ?_
      rintro e w' ⟨rfl, rfl⟩
      go_wp2_with fail
      go_ret
      exact ⟨rfl, hB1.out⟩
    · clear hok htest
      go_enter Try.func8, Try.ntmps8
      go_wp2_with fail
      refine (lives_any _).mono ?_
      rintro e w1 ⟨rfl, hb1⟩
      have hB1 := hid hb1
      have hI1 := hid (hI.out.mono hb1)
      clear hb1
      go_wp2_with fail
      refine (width_any _ _ hy).mono ?_
      rintro e w' ⟨rfl, rfl⟩
      rw [hW.out]
      go_wp2_with fail
      refine (latNo8 _ _ _ _ _ hat (by omega) hno.out).mono ?_
      rintro e w' ⟨rfl, rfl⟩
      go_wp2_with fail
      refine (lwithNo8 _ _ _ _ _ _ hat (by omega) hno.out hx).mono ?_
      rintro e w' ⟨rfl, rfl⟩
      go_wp2_with fail
      go_ret
      exact ⟨rfl, hB1.out⟩


theorem over_walk (w : World) (ao : Option Addr) (cap : Nat) (l : List Int) (hi : Ints .u8 w ao l) (hcap : l.length ≤ cap) (hmax : cap ≤ maxLen) (at_ : Int) (wat : (Lit.int .i64 at_).wf = true) (x : Int) (wx : (Lit.int .u64 x).wf = true) (y : Int) (wy : (Lit.int .i64 y).wf = true) (hr : cap * 1 ≤ 140737488351232) :
    Calls Try.prog 8 #[.slice ao l.length cap, .int .i64 at_, .int .u64 x, .int .i64 y] w fun e w' => e = .returned (.bool true) ∧ Below w.heap.size w w' := by
  rcases wid_cases y with h | h | h | h
  · exact over1 w ao cap l hi hcap at_ (wf_i64.1 wat) x (wf_u64.1 wx) y (wf_i64.1 wy) h (by omega)
  · exact over2 w ao cap l hi hcap at_ (wf_i64.1 wat) x (wf_u64.1 wx) y (wf_i64.1 wy) h (by omega)
  · exact over4 w ao cap l hi hcap at_ (wf_i64.1 wat) x (wf_u64.1 wx) y (wf_i64.1 wy) h (by omega)
  · exact over8 w ao cap l hi hcap at_ (wf_i64.1 wat) x (wf_u64.1 wx) y (wf_i64.1 wy) h (by omega)
end Go.Proofs.Ytdhicfolchpmhaa
