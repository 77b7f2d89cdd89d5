/- Walks: alls, ats. -/
import Derived.Test.YtdhicfolchpmhaaRefE
namespace Go.Proofs.Ytdhicfolchpmhaa
open Go.RowKit
set_option linter.unusedVariables false
set_option linter.unusedSimpArgs false

set_option maxHeartbeats 1000000 in
theorem alls1 (ao : Option Addr) (n cap : Nat) (l : List Int) (w : World) (hn : n = l.length) (hl : l.length ≤ 140737488351232) (hl8 : (allR 1 l).1.length * 8 ≤ 140737488351232) (hcap : l.length ≤ cap) (hi : Ints .u8 w ao l) :
    Calls Try.prog 35 #[.int .i64 1, .slice ao n cap] w fun e w' => e = .returned (.bool true) ∧ Below w.heap.size w w' := by
  subst hn
  have hI := hid hi
  have hwf : Hid (∀ x ∈ (allR 1 l).1, (Lit.int .u64 x).wf = true) := fun x hx => wf_u64.2 (by have := wf_u8.1 (allR1_wf l (fun x hx => wf_u8.1 (hi.wf x hx)) x hx); omega)
  clear hi
  go_enter Try.func35, Try.ntmps35
  go_wp2_with fail
  refine (refall1 ao _ cap l w rfl hl hl8 hI.out).mono ?_
  rintro e w1 ⟨v1, rfl, ho1, hb1⟩
  obtain ⟨a1, c1, hv1, hI1, -⟩ := ints_of_own ho1 hwf.out
  subst hv1
  have hJ1 := hid hI1
  have hB1 := hid hb1
  have hIb := hid (hI.out.mono hb1)
  clear ho1 hI1 hb1
  go_wp2_with fail
  refine (lall1 ao _ cap l w1 rfl hl (by omega) hcap hIb.out).mono ?_
  rintro e w2 ⟨v2, rfl, ho2, hb2⟩
  obtain ⟨a2, c2, hv2, hI2, -⟩ := ints_of_own ho2 hwf.out
  subst hv2
  have hJ12 := hid (hJ1.out.mono hb2)
  have hJ2 := hid hI2
  have hB2 := hid (hB1.out.trans (hb2.mono hB1.out.size))
  have hIc := hid (hIb.out.mono hb2)
  clear ho2 hI2 hb2 hIb
  go_wp2_with fail
  refine (lall1 ao _ cap l w2 rfl hl (by omega) hcap hIc.out).mono ?_
  rintro e w3 ⟨v3, rfl, ho3, hb3⟩
  obtain ⟨a3, c3, hv3, hI3, -⟩ := ints_of_own ho3 hwf.out
  subst hv3
  have hJ13 := hid (hJ12.out.mono hb3)
  have hJ23 := hid (hJ2.out.mono hb3)
  have hJ3 := hid hI3
  have hB3 := hid (hB2.out.trans (hb3.mono hB2.out.size))
  clear ho3 hI3 hb3 hIc hI
  generalize (allR 1 l).2 = f at *
  generalize (allR 1 l).1 = r at *
  have hf : (f != f) = false := bne_eq_false_iff_eq.2 rfl
  go_wp2_with fail
  refine (samen_any a2 _ c2 r a1 _ c1 r w3 rfl rfl (by omega) hJ23.out hJ13.out).mono ?_
  rintro e w4 ⟨rfl, q4, rfl⟩
  rw [show decide (r = r) = true from decide_eq_true rfl]
  go_wp2_with fail
  refine (samen_any a3 _ c3 r a1 _ c1 r (w3.drewN q4) rfl rfl (by omega) (hJ3.out.drewN q4) (hJ13.out.drewN q4)).mono ?_
  rintro e w5 ⟨rfl, q5, rfl⟩
  rw [show decide (r = r) = true from decide_eq_true rfl]
  go_wp2_with fail
  go_ret
  exact ⟨rfl, below_drewN' hB3.out (q4 + q5)⟩

set_option maxHeartbeats 1000000 in
theorem ats1 (ao : Option Addr) (n cap : Nat) (l : List Int) (at_ : Int) (w : World) (hat : -9223372036854775808 ≤ at_ ∧ at_ ≤ 9223372036854775807) (hn : n = l.length) (hl : l.length ≤ 140737488351232) (hcap : l.length ≤ cap) (hi : Ints .u8 w ao l) :
    Calls Try.prog 36 #[.int .i64 1, .slice ao n cap, .int .i64 at_] w fun e w' => e = .returned (.bool true) ∧ w = w' := by
  subst hn
  by_cases h : 0 ≤ at_ ∧ at_ + 1 ≤ (l.length : Int)
  · obtain ⟨k, rfl⟩ := Int.eq_ofNat_of_zero_le h.1
    have hk : k + 1 ≤ l.length := by omega
    have c1 := hid (refat 1 (by decide) (by decide) ao _ cap l k w rfl hl hi hk)
    have c2 := hid (lat1 ao _ cap l k w rfl hl hcap hi hk)
    clear h hi hat
    generalize num ((l.drop k).take 1) = y at *
    have hf : (y == y) = true := beq_self_eq_true y
    go_enter Try.func36, Try.ntmps36
    go_wp2_with fail
    refine c1.out.mono ?_
    rintro e w1 ⟨rfl, rfl⟩
    go_wp2_with fail
    refine c2.out.mono ?_
    rintro e w1 ⟨rfl, rfl⟩
    go_wp2_with fail
    go_ret
    exact ⟨rfl, rfl⟩
  · have c1 := hid (refatNo 1 (by decide) (by decide) ao l.length cap at_ w hat (by omega) h)
    have c2 := hid (latNo1 ao l.length cap at_ w hat (by omega) h)
    clear h hi hat
    go_enter Try.func36, Try.ntmps36
    go_wp2_with fail
    refine c1.out.mono ?_
    rintro e w1 ⟨rfl, rfl⟩
    go_wp2_with fail
    refine c2.out.mono ?_
    rintro e w1 ⟨rfl, rfl⟩
    go_wp2_with fail
    go_ret
    exact ⟨rfl, rfl⟩

set_option maxHeartbeats 1000000 in
theorem alls2 (ao : Option Addr) (n cap : Nat) (l : List Int) (w : World) (hn : n = l.length) (hl : l.length ≤ 140737488351232) (hl8 : (allR 2 l).1.length * 8 ≤ 140737488351232) (hcap : l.length ≤ cap) (hi : Ints .u8 w ao l) :
    Calls Try.prog 35 #[.int .i64 2, .slice ao n cap] w fun e w' => e = .returned (.bool true) ∧ Below w.heap.size w w' := by
  subst hn
  have hI := hid hi
  have hwf : Hid (∀ x ∈ (allR 2 l).1, (Lit.int .u64 x).wf = true) := fun x hx => wf_u64.2 (by have := wf_u16.1 (allR2_wf l (fun x hx => wf_u8.1 (hi.wf x hx)) x hx); omega)
  clear hi
  go_enter Try.func35, Try.ntmps35
  go_wp2_with fail
  refine (refall2 ao _ cap l w rfl hl hl8 hI.out).mono ?_
  rintro e w1 ⟨v1, rfl, ho1, hb1⟩
  obtain ⟨a1, c1, hv1, hI1, -⟩ := ints_of_own ho1 hwf.out
  subst hv1
  have hJ1 := hid hI1
  have hB1 := hid hb1
  have hIb := hid (hI.out.mono hb1)
  clear ho1 hI1 hb1
  go_wp2_with fail
  refine (lall2 ao _ cap l w1 rfl hl (by omega) hcap hIb.out).mono ?_
  rintro e w2 ⟨v2, rfl, ho2, hb2⟩
  obtain ⟨a2, c2, hv2, hI2, -⟩ := ints_of_own ho2 hwf.out
  subst hv2
  have hJ12 := hid (hJ1.out.mono hb2)
  have hJ2 := hid hI2
  have hB2 := hid (hB1.out.trans (hb2.mono hB1.out.size))
  have hIc := hid (hIb.out.mono hb2)
  clear ho2 hI2 hb2 hIb
  go_wp2_with fail
  refine (lall2 ao _ cap l w2 rfl hl (by omega) hcap hIc.out).mono ?_
  rintro e w3 ⟨v3, rfl, ho3, hb3⟩
  obtain ⟨a3, c3, hv3, hI3, -⟩ := ints_of_own ho3 hwf.out
  subst hv3
  have hJ13 := hid (hJ12.out.mono hb3)
  have hJ23 := hid (hJ2.out.mono hb3)
  have hJ3 := hid hI3
  have hB3 := hid (hB2.out.trans (hb3.mono hB2.out.size))
  clear ho3 hI3 hb3 hIc hI
  generalize (allR 2 l).2 = f at *
  generalize (allR 2 l).1 = r at *
  have hf : (f != f) = false := bne_eq_false_iff_eq.2 rfl
  go_wp2_with fail
  refine (samen_any a2 _ c2 r a1 _ c1 r w3 rfl rfl (by omega) hJ23.out hJ13.out).mono ?_
  rintro e w4 ⟨rfl, q4, rfl⟩
  rw [show decide (r = r) = true from decide_eq_true rfl]
  go_wp2_with fail
  refine (samen_any a3 _ c3 r a1 _ c1 r (w3.drewN q4) rfl rfl (by omega) (hJ3.out.drewN q4) (hJ13.out.drewN q4)).mono ?_
  rintro e w5 ⟨rfl, q5, rfl⟩
  rw [show decide (r = r) = true from decide_eq_true rfl]
  go_wp2_with fail
  go_ret
  exact ⟨rfl, below_drewN' hB3.out (q4 + q5)⟩

set_option maxHeartbeats 1000000 in
theorem ats2 (ao : Option Addr) (n cap : Nat) (l : List Int) (at_ : Int) (w : World) (hat : -9223372036854775808 ≤ at_ ∧ at_ ≤ 9223372036854775807) (hn : n = l.length) (hl : l.length ≤ 140737488351232) (hcap : l.length ≤ cap) (hi : Ints .u8 w ao l) :
    Calls Try.prog 36 #[.int .i64 2, .slice ao n cap, .int .i64 at_] w fun e w' => e = .returned (.bool true) ∧ w = w' := by
  subst hn
  by_cases h : 0 ≤ at_ ∧ at_ + 2 ≤ (l.length : Int)
  · obtain ⟨k, rfl⟩ := Int.eq_ofNat_of_zero_le h.1
    have hk : k + 2 ≤ l.length := by omega
    have c1 := hid (refat 2 (by decide) (by decide) ao _ cap l k w rfl hl hi hk)
    have c2 := hid (lat2 ao _ cap l k w rfl hl hcap hi hk)
    clear h hi hat
    generalize num ((l.drop k).take 2) = y at *
    have hf : (y == y) = true := beq_self_eq_true y
    go_enter Try.func36, Try.ntmps36
    go_wp2_with fail
    refine c1.out.mono ?_
    rintro e w1 ⟨rfl, rfl⟩
    go_wp2_with fail
    refine c2.out.mono ?_
    rintro e w1 ⟨rfl, rfl⟩
    go_wp2_with fail
    go_ret
    exact ⟨rfl, rfl⟩
  · have c1 := hid (refatNo 2 (by decide) (by decide) ao l.length cap at_ w hat (by omega) h)
    have c2 := hid (latNo2 ao l.length cap at_ w hat (by omega) h)
    clear h hi hat
    go_enter Try.func36, Try.ntmps36
    go_wp2_with fail
    refine c1.out.mono ?_
    rintro e w1 ⟨rfl, rfl⟩
    go_wp2_with fail
    refine c2.out.mono ?_
    rintro e w1 ⟨rfl, rfl⟩
    go_wp2_with fail
    go_ret
    exact ⟨rfl, rfl⟩

set_option maxHeartbeats 1000000 in
theorem alls4 (ao : Option Addr) (n cap : Nat) (l : List Int) (w : World) (hn : n = l.length) (hl : l.length ≤ 140737488351232) (hl8 : (allR 4 l).1.length * 8 ≤ 140737488351232) (hcap : l.length ≤ cap) (hi : Ints .u8 w ao l) :
    Calls Try.prog 35 #[.int .i64 4, .slice ao n cap] w fun e w' => e = .returned (.bool true) ∧ Below w.heap.size w w' := by
  subst hn
  have hI := hid hi
  have hwf : Hid (∀ x ∈ (allR 4 l).1, (Lit.int .u64 x).wf = true) := fun x hx => wf_u64.2 (by have := wf_u32.1 (allR4_wf l (fun x hx => wf_u8.1 (hi.wf x hx)) x hx); omega)
  clear hi
  go_enter Try.func35, Try.ntmps35
  go_wp2_with fail
  refine (refall4 ao _ cap l w rfl hl hl8 hI.out).mono ?_
  rintro e w1 ⟨v1, rfl, ho1, hb1⟩
  obtain ⟨a1, c1, hv1, hI1, -⟩ := ints_of_own ho1 hwf.out
  subst hv1
  have hJ1 := hid hI1
  have hB1 := hid hb1
  have hIb := hid (hI.out.mono hb1)
  clear ho1 hI1 hb1
  go_wp2_with fail
  refine (lall4 ao _ cap l w1 rfl hl (by omega) hcap hIb.out).mono ?_
  rintro e w2 ⟨v2, rfl, ho2, hb2⟩
  obtain ⟨a2, c2, hv2, hI2, -⟩ := ints_of_own ho2 hwf.out
  subst hv2
  have hJ12 := hid (hJ1.out.mono hb2)
  have hJ2 := hid hI2
  have hB2 := hid (hB1.out.trans (hb2.mono hB1.out.size))
  have hIc := hid (hIb.out.mono hb2)
  clear ho2 hI2 hb2 hIb
  go_wp2_with fail
  refine (lall4 ao _ cap l w2 rfl hl (by omega) hcap hIc.out).mono ?_
  rintro e w3 ⟨v3, rfl, ho3, hb3⟩
  obtain ⟨a3, c3, hv3, hI3, -⟩ := ints_of_own ho3 hwf.out
  subst hv3
  have hJ13 := hid (hJ12.out.mono hb3)
  have hJ23 := hid (hJ2.out.mono hb3)
  have hJ3 := hid hI3
  have hB3 := hid (hB2.out.trans (hb3.mono hB2.out.size))
  clear ho3 hI3 hb3 hIc hI
  generalize (allR 4 l).2 = f at *
  generalize (allR 4 l).1 = r at *
  have hf : (f != f) = false := bne_eq_false_iff_eq.2 rfl
  go_wp2_with fail
  refine (samen_any a2 _ c2 r a1 _ c1 r w3 rfl rfl (by omega) hJ23.out hJ13.out).mono ?_
  rintro e w4 ⟨rfl, q4, rfl⟩
  rw [show decide (r = r) = true from decide_eq_true rfl]
  go_wp2_with fail
  refine (samen_any a3 _ c3 r a1 _ c1 r (w3.drewN q4) rfl rfl (by omega) (hJ3.out.drewN q4) (hJ13.out.drewN q4)).mono ?_
  rintro e w5 ⟨rfl, q5, rfl⟩
  rw [show decide (r = r) = true from decide_eq_true rfl]
  go_wp2_with fail
  go_ret
  exact ⟨rfl, below_drewN' hB3.out (q4 + q5)⟩

set_option maxHeartbeats 1000000 in
theorem ats4 (ao : Option Addr) (n cap : Nat) (l : List Int) (at_ : Int) (w : World) (hat : -9223372036854775808 ≤ at_ ∧ at_ ≤ 9223372036854775807) (hn : n = l.length) (hl : l.length ≤ 140737488351232) (hcap : l.length ≤ cap) (hi : Ints .u8 w ao l) :
    Calls Try.prog 36 #[.int .i64 4, .slice ao n cap, .int .i64 at_] w fun e w' => e = .returned (.bool true) ∧ w = w' := by
  subst hn
  by_cases h : 0 ≤ at_ ∧ at_ + 4 ≤ (l.length : Int)
  · obtain ⟨k, rfl⟩ := Int.eq_ofNat_of_zero_le h.1
    have hk : k + 4 ≤ l.length := by omega
    have c1 := hid (refat 4 (by decide) (by decide) ao _ cap l k w rfl hl hi hk)
    have c2 := hid (lat4 ao _ cap l k w rfl hl hcap hi hk)
    clear h hi hat
    generalize num ((l.drop k).take 4) = y at *
    have hf : (y == y) = true := beq_self_eq_true y
    go_enter Try.func36, Try.ntmps36
    go_wp2_with fail
    refine c1.out.mono ?_
    rintro e w1 ⟨rfl, rfl⟩
    go_wp2_with fail
    refine c2.out.mono ?_
    rintro e w1 ⟨rfl, rfl⟩
    go_wp2_with fail
    go_ret
    exact ⟨rfl, rfl⟩
  · have c1 := hid (refatNo 4 (by decide) (by decide) ao l.length cap at_ w hat (by omega) h)
    have c2 := hid (latNo4 ao l.length cap at_ w hat (by omega) h)
    clear h hi hat
    go_enter Try.func36, Try.ntmps36
    go_wp2_with fail
    refine c1.out.mono ?_
    rintro e w1 ⟨rfl, rfl⟩
    go_wp2_with fail
    refine c2.out.mono ?_
    rintro e w1 ⟨rfl, rfl⟩
    go_wp2_with fail
    go_ret
    exact ⟨rfl, rfl⟩

set_option maxHeartbeats 1000000 in
theorem alls8 (ao : Option Addr) (n cap : Nat) (l : List Int) (w : World) (hn : n = l.length) (hl : l.length ≤ 140737488351232) (hl8 : (allR 8 l).1.length * 8 ≤ 140737488351232) (hcap : l.length ≤ cap) (hi : Ints .u8 w ao l) :
    Calls Try.prog 35 #[.int .i64 8, .slice ao n cap] w fun e w' => e = .returned (.bool true) ∧ Below w.heap.size w w' := by
  subst hn
  have hI := hid hi
  have hwf : Hid (∀ x ∈ (allR 8 l).1, (Lit.int .u64 x).wf = true) := fun x hx => wf_u64.2 (by have := wf_u64.1 (allR8_wf l (fun x hx => wf_u8.1 (hi.wf x hx)) x hx); omega)
  clear hi
  go_enter Try.func35, Try.ntmps35
  go_wp2_with fail
  refine (refall8 ao _ cap l w rfl hl hl8 hI.out).mono ?_
  rintro e w1 ⟨v1, rfl, ho1, hb1⟩
  obtain ⟨a1, c1, hv1, hI1, -⟩ := ints_of_own ho1 hwf.out
  subst hv1
  have hJ1 := hid hI1
  have hB1 := hid hb1
  have hIb := hid (hI.out.mono hb1)
  clear ho1 hI1 hb1
  go_wp2_with fail
  refine (lall8 ao _ cap l w1 rfl hl (by omega) hcap hIb.out).mono ?_
  rintro e w2 ⟨v2, rfl, ho2, hb2⟩
  obtain ⟨a2, c2, hv2, hI2, -⟩ := ints_of_own ho2 hwf.out
  subst hv2
  have hJ12 := hid (hJ1.out.mono hb2)
  have hJ2 := hid hI2
  have hB2 := hid (hB1.out.trans (hb2.mono hB1.out.size))
  have hIc := hid (hIb.out.mono hb2)
  clear ho2 hI2 hb2 hIb
  go_wp2_with fail
  refine (lall8 ao _ cap l w2 rfl hl (by omega) hcap hIc.out).mono ?_
  rintro e w3 ⟨v3, rfl, ho3, hb3⟩
  obtain ⟨a3, c3, hv3, hI3, -⟩ := ints_of_own ho3 hwf.out
  subst hv3
  have hJ13 := hid (hJ12.out.mono hb3)
  have hJ23 := hid (hJ2.out.mono hb3)
  have hJ3 := hid hI3
  have hB3 := hid (hB2.out.trans (hb3.mono hB2.out.size))
  clear ho3 hI3 hb3 hIc hI
  generalize (allR 8 l).2 = f at *
  generalize (allR 8 l).1 = r at *
  have hf : (f != f) = false := bne_eq_false_iff_eq.2 rfl
  go_wp2_with fail
  refine (samen_any a2 _ c2 r a1 _ c1 r w3 rfl rfl (by omega) hJ23.out hJ13.out).mono ?_
  rintro e w4 ⟨rfl, q4, rfl⟩
  rw [show decide (r = r) = true from decide_eq_true rfl]
  go_wp2_with fail
  refine (samen_any a3 _ c3 r a1 _ c1 r (w3.drewN q4) rfl rfl (by omega) (hJ3.out.drewN q4) (hJ13.out.drewN q4)).mono ?_
  rintro e w5 ⟨rfl, q5, rfl⟩
  rw [show decide (r = r) = true from decide_eq_true rfl]
  go_wp2_with fail
  go_ret
  exact ⟨rfl, below_drewN' hB3.out (q4 + q5)⟩

set_option maxHeartbeats 1000000 in
theorem ats8 (ao : Option Addr) (n cap : Nat) (l : List Int) (at_ : Int) (w : World) (hat : -9223372036854775808 ≤ at_ ∧ at_ ≤ 9223372036854775807) (hn : n = l.length) (hl : l.length ≤ 140737488351232) (hcap : l.length ≤ cap) (hi : Ints .u8 w ao l) :
    Calls Try.prog 36 #[.int .i64 8, .slice ao n cap, .int .i64 at_] w fun e w' => e = .returned (.bool true) ∧ w = w' := by
  subst hn
  by_cases h : 0 ≤ at_ ∧ at_ + 8 ≤ (l.length : Int)
  · obtain ⟨k, rfl⟩ := Int.eq_ofNat_of_zero_le h.1
    have hk : k + 8 ≤ l.length := by omega
    have c1 := hid (refat 8 (by decide) (by decide) ao _ cap l k w rfl hl hi hk)
    have c2 := hid (lat8 ao _ cap l k w rfl hl hcap hi hk)
    clear h hi hat
    generalize num ((l.drop k).take 8) = y at *
    have hf : (y == y) = true := beq_self_eq_true y
    go_enter Try.func36, Try.ntmps36
    go_wp2_with fail
    refine c1.out.mono ?_
    rintro e w1 ⟨rfl, rfl⟩
    go_wp2_with fail
    refine c2.out.mono ?_
    rintro e w1 ⟨rfl, rfl⟩
    go_wp2_with fail
    go_ret
    exact ⟨rfl, rfl⟩
  · have c1 := hid (refatNo 8 (by decide) (by decide) ao l.length cap at_ w hat (by omega) h)
    have c2 := hid (latNo8 ao l.length cap at_ w hat (by omega) h)
    clear h hi hat
    go_enter Try.func36, Try.ntmps36
    go_wp2_with fail
    refine c1.out.mono ?_
    rintro e w1 ⟨rfl, rfl⟩
    go_wp2_with fail
    refine c2.out.mono ?_
    rintro e w1 ⟨rfl, rfl⟩
    go_wp2_with fail
    go_ret
    exact ⟨rfl, rfl⟩
end Go.Proofs.Ytdhicfolchpmhaa
