/- Walks: the law's at1, with at each width. -/
import Derived.Test.YtdhicfolchpmhaaLawA
import Derived.Test.YtdhicfolchpmhaaWalkV1
import Derived.Test.YtdhicfolchpmhaaWalkV2
import Derived.Test.YtdhicfolchpmhaaWalkV4
import Derived.Test.YtdhicfolchpmhaaWalkV8
namespace Go.Proofs.Ytdhicfolchpmhaa
open Go.RowKit
set_option linter.unusedVariables false
set_option linter.unusedSimpArgs false


set_option maxHeartbeats 1000000 in
theorem lat1 (ao : Option Addr) (n cap : Nat) (l : List Int) (k : Nat) (w : World) (hn : n = l.length) (hl : l.length ≤ 140737488351232) (hcap : l.length ≤ cap) (hi : Ints .u8 w ao l) (hk : k + 1 ≤ l.length) :
    Calls Try.prog 29 #[.int .i64 1, .slice ao n cap, .int .i64 k] w fun e w' => e = .returned (.tuple #[.int .u64 (num ((l.drop k).take 1)), .int .i64 0]) ∧ w = w' := by
  subst hn
  have hbd : Hid (0 ≤ num ((l.drop k).take 1) ∧ num ((l.drop k).take 1) < 256 ^ 1) := by
    have h1 := num_bd ((l.drop k).take 1) (fun b hb => wf_u8.1 (hi.wf b (List.mem_of_mem_drop (List.mem_of_mem_take hb))))
    have h2 : ((l.drop k).take 1).length = 1 := by rw [List.length_take, List.length_drop]; omega
    rw [h2] at h1
    exact h1
  have hI := hid hi
  clear hi
  generalize hgx : num ((l.drop k).take 1) = x at *
  have hX := hid hgx
  clear hgx
  go_enter Try.func29, Try.ntmps29
  go_wp2_with fail
  refine (at1 _ _ _ l k _ rfl hl hcap hI.out hk).mono ?_
  rintro e w' ⟨rfl, rfl⟩
  rw [hX.out]
  have hb1 := hbd.out.1
  have hb2 : x ≤ 255 := by have := hbd.out.2; omega
  go_wp2_with fail
  go_ret2
  exact ⟨rfl, rfl⟩

set_option maxHeartbeats 1000000 in
theorem latNo1 (ao : Option Addr) (n cap : Nat) (at_ : Int) (w : World) (hat : -9223372036854775808 ≤ at_ ∧ at_ ≤ 9223372036854775807) (hl : n ≤ 140737488355328) (h : ¬ (0 ≤ at_ ∧ at_ + 1 ≤ (n : Int))) :
    Calls Try.prog 29 #[.int .i64 1, .slice ao n cap, .int .i64 at_] w fun e w' => e = .returned (.tuple #[.int .u64 0, .int .i64 20]) ∧ w = w' := by
  have hh := hid h
  clear h
  go_enter Try.func29, Try.ntmps29
  go_wp2_with fail
  refine (atNo1 _ _ _ _ _ hat hl hh.out).mono ?_
  rintro e w' ⟨rfl, rfl⟩
  go_wp2_with fail
  go_ret2
  exact ⟨rfl, rfl⟩

set_option maxHeartbeats 1000000 in
theorem lwith1 (ao : Option Addr) (n cap : Nat) (l : List Int) (k : Nat) (x : Int) (w : World) (hn : n = l.length) (hl : l.length ≤ 140737488351232) (hcap : l.length ≤ cap) (hi : Ints .u8 w ao l) (hx : 0 ≤ x ∧ x ≤ 18446744073709551615) (hk : k + 1 ≤ l.length) :
    Calls Try.prog 30 #[.int .i64 1, .slice ao n cap, .int .i64 k, .int .u64 x] w fun e w' => ∃ v, e = .returned (.tuple #[v, .int .i64 0]) ∧ w'.ownsRow w.heap.size 5 1 v n ((withL 1 l k (x % 256 ^ 1)).map (Value.int .u8)) ∧ Below w.heap.size w w' := by
  subst hn
  have hI := hid hi
  clear hi
  have hxe : Hid (x % 256 ^ 1 = x % 256) := by unfold Hid; omega
  rw [hxe.out]
  go_enter Try.func30, Try.ntmps30
  go_wp2_with fail
  refine (with1 _ _ _ l k (x % 256) _ rfl hl hcap hI.out (by omega) hk).mono ?_
  rintro e w' ⟨v, rfl, ho, hb⟩
  have hO := hid ho
  clear ho
  go_wp2_with fail
  go_ret2
  exact ⟨_, rfl, hO.out, hb⟩

set_option maxHeartbeats 1000000 in
theorem lwithNo1 (ao : Option Addr) (n cap : Nat) (at_ x : Int) (w : World) (hat : -9223372036854775808 ≤ at_ ∧ at_ ≤ 9223372036854775807) (hl : n ≤ 140737488355328) (h : ¬ (0 ≤ at_ ∧ at_ + 1 ≤ (n : Int))) (hx : 0 ≤ x ∧ x ≤ 18446744073709551615) :
    Calls Try.prog 30 #[.int .i64 1, .slice ao n cap, .int .i64 at_, .int .u64 x] w fun e w' => e = .returned (.tuple #[.slice none 0 0, .int .i64 20]) ∧ w = w' := by
  have hh := hid h
  clear h
  go_enter Try.func30, Try.ntmps30
  go_wp2_with fail
  refine (withNo1 _ _ _ _ (x % 256) _ hat hl hh.out).mono ?_
  rintro e w' ⟨rfl, rfl⟩
  go_wp2_with fail
  go_ret2
  exact ⟨rfl, rfl⟩


set_option maxHeartbeats 1000000 in
theorem lat2 (ao : Option Addr) (n cap : Nat) (l : List Int) (k : Nat) (w : World) (hn : n = l.length) (hl : l.length ≤ 140737488351232) (hcap : l.length ≤ cap) (hi : Ints .u8 w ao l) (hk : k + 2 ≤ l.length) :
    Calls Try.prog 29 #[.int .i64 2, .slice ao n cap, .int .i64 k] w fun e w' => e = .returned (.tuple #[.int .u64 (num ((l.drop k).take 2)), .int .i64 0]) ∧ w = w' := by
  subst hn
  have hbd : Hid (0 ≤ num ((l.drop k).take 2) ∧ num ((l.drop k).take 2) < 256 ^ 2) := by
    have h1 := num_bd ((l.drop k).take 2) (fun b hb => wf_u8.1 (hi.wf b (List.mem_of_mem_drop (List.mem_of_mem_take hb))))
    have h2 : ((l.drop k).take 2).length = 2 := by rw [List.length_take, List.length_drop]; omega
    rw [h2] at h1
    exact h1
  have hI := hid hi
  clear hi
  generalize hgx : num ((l.drop k).take 2) = x at *
  have hX := hid hgx
  clear hgx
  go_enter Try.func29, Try.ntmps29
  go_wp2_with fail
  refine (at2 _ _ _ l k _ rfl hl hcap hI.out hk).mono ?_
  rintro e w' ⟨rfl, rfl⟩
  rw [hX.out]
  have hb1 := hbd.out.1
  have hb2 : x ≤ 65535 := by have := hbd.out.2; omega
  go_wp2_with fail
  go_ret2
  exact ⟨rfl, rfl⟩

set_option maxHeartbeats 1000000 in
theorem latNo2 (ao : Option Addr) (n cap : Nat) (at_ : Int) (w : World) (hat : -9223372036854775808 ≤ at_ ∧ at_ ≤ 9223372036854775807) (hl : n ≤ 140737488355328) (h : ¬ (0 ≤ at_ ∧ at_ + 2 ≤ (n : Int))) :
    Calls Try.prog 29 #[.int .i64 2, .slice ao n cap, .int .i64 at_] w fun e w' => e = .returned (.tuple #[.int .u64 0, .int .i64 20]) ∧ w = w' := by
  have hh := hid h
  clear h
  go_enter Try.func29, Try.ntmps29
  go_wp2_with fail
  refine (atNo2 _ _ _ _ _ hat hl hh.out).mono ?_
  rintro e w' ⟨rfl, rfl⟩
  go_wp2_with fail
  go_ret2
  exact ⟨rfl, rfl⟩

set_option maxHeartbeats 1000000 in
theorem lwith2 (ao : Option Addr) (n cap : Nat) (l : List Int) (k : Nat) (x : Int) (w : World) (hn : n = l.length) (hl : l.length ≤ 140737488351232) (hcap : l.length ≤ cap) (hi : Ints .u8 w ao l) (hx : 0 ≤ x ∧ x ≤ 18446744073709551615) (hk : k + 2 ≤ l.length) :
    Calls Try.prog 30 #[.int .i64 2, .slice ao n cap, .int .i64 k, .int .u64 x] w fun e w' => ∃ v, e = .returned (.tuple #[v, .int .i64 0]) ∧ w'.ownsRow w.heap.size 5 1 v n ((withL 2 l k (x % 256 ^ 2)).map (Value.int .u8)) ∧ Below w.heap.size w w' := by
  subst hn
  have hI := hid hi
  clear hi
  have hxe : Hid (x % 256 ^ 2 = x % 65536) := by unfold Hid; omega
  rw [hxe.out]
  go_enter Try.func30, Try.ntmps30
  go_wp2_with fail
  refine (with2 _ _ _ l k (x % 65536) _ rfl hl hcap hI.out (by omega) hk).mono ?_
  rintro e w' ⟨v, rfl, ho, hb⟩
  have hO := hid ho
  clear ho
  go_wp2_with fail
  go_ret2
  exact ⟨_, rfl, hO.out, hb⟩

set_option maxHeartbeats 1000000 in
theorem lwithNo2 (ao : Option Addr) (n cap : Nat) (at_ x : Int) (w : World) (hat : -9223372036854775808 ≤ at_ ∧ at_ ≤ 9223372036854775807) (hl : n ≤ 140737488355328) (h : ¬ (0 ≤ at_ ∧ at_ + 2 ≤ (n : Int))) (hx : 0 ≤ x ∧ x ≤ 18446744073709551615) :
    Calls Try.prog 30 #[.int .i64 2, .slice ao n cap, .int .i64 at_, .int .u64 x] w fun e w' => e = .returned (.tuple #[.slice none 0 0, .int .i64 20]) ∧ w = w' := by
  have hh := hid h
  clear h
  go_enter Try.func30, Try.ntmps30
  go_wp2_with fail
  refine (withNo2 _ _ _ _ (x % 65536) _ hat hl hh.out).mono ?_
  rintro e w' ⟨rfl, rfl⟩
  go_wp2_with fail
  go_ret2
  exact ⟨rfl, rfl⟩


set_option maxHeartbeats 1000000 in
theorem lat4 (ao : Option Addr) (n cap : Nat) (l : List Int) (k : Nat) (w : World) (hn : n = l.length) (hl : l.length ≤ 140737488351232) (hcap : l.length ≤ cap) (hi : Ints .u8 w ao l) (hk : k + 4 ≤ l.length) :
    Calls Try.prog 29 #[.int .i64 4, .slice ao n cap, .int .i64 k] w fun e w' => e = .returned (.tuple #[.int .u64 (num ((l.drop k).take 4)), .int .i64 0]) ∧ w = w' := by
  subst hn
  have hbd : Hid (0 ≤ num ((l.drop k).take 4) ∧ num ((l.drop k).take 4) < 256 ^ 4) := by
    have h1 := num_bd ((l.drop k).take 4) (fun b hb => wf_u8.1 (hi.wf b (List.mem_of_mem_drop (List.mem_of_mem_take hb))))
    have h2 : ((l.drop k).take 4).length = 4 := by rw [List.length_take, List.length_drop]; omega
    rw [h2] at h1
    exact h1
  have hI := hid hi
  clear hi
  generalize hgx : num ((l.drop k).take 4) = x at *
  have hX := hid hgx
  clear hgx
  go_enter Try.func29, Try.ntmps29
  go_wp2_with fail
  refine (at4 _ _ _ l k _ rfl hl hcap hI.out hk).mono ?_
  rintro e w' ⟨rfl, rfl⟩
  rw [hX.out]
  have hb1 := hbd.out.1
  have hb2 : x ≤ 4294967295 := by have := hbd.out.2; omega
  go_wp2_with fail
  go_ret2
  exact ⟨rfl, rfl⟩

set_option maxHeartbeats 1000000 in
theorem latNo4 (ao : Option Addr) (n cap : Nat) (at_ : Int) (w : World) (hat : -9223372036854775808 ≤ at_ ∧ at_ ≤ 9223372036854775807) (hl : n ≤ 140737488355328) (h : ¬ (0 ≤ at_ ∧ at_ + 4 ≤ (n : Int))) :
    Calls Try.prog 29 #[.int .i64 4, .slice ao n cap, .int .i64 at_] w fun e w' => e = .returned (.tuple #[.int .u64 0, .int .i64 20]) ∧ w = w' := by
  have hh := hid h
  clear h
  go_enter Try.func29, Try.ntmps29
  go_wp2_with fail
  refine (atNo4 _ _ _ _ _ hat hl hh.out).mono ?_
  rintro e w' ⟨rfl, rfl⟩
  go_wp2_with fail
  go_ret2
  exact ⟨rfl, rfl⟩

set_option maxHeartbeats 1000000 in
theorem lwith4 (ao : Option Addr) (n cap : Nat) (l : List Int) (k : Nat) (x : Int) (w : World) (hn : n = l.length) (hl : l.length ≤ 140737488351232) (hcap : l.length ≤ cap) (hi : Ints .u8 w ao l) (hx : 0 ≤ x ∧ x ≤ 18446744073709551615) (hk : k + 4 ≤ l.length) :
    Calls Try.prog 30 #[.int .i64 4, .slice ao n cap, .int .i64 k, .int .u64 x] w fun e w' => ∃ v, e = .returned (.tuple #[v, .int .i64 0]) ∧ w'.ownsRow w.heap.size 5 1 v n ((withL 4 l k (x % 256 ^ 4)).map (Value.int .u8)) ∧ Below w.heap.size w w' := by
  subst hn
  have hI := hid hi
  clear hi
  have hxe : Hid (x % 256 ^ 4 = x % 4294967296) := by unfold Hid; omega
  rw [hxe.out]
  go_enter Try.func30, Try.ntmps30
  go_wp2_with fail
  refine (with4 _ _ _ l k (x % 4294967296) _ rfl hl hcap hI.out (by omega) hk).mono ?_
  rintro e w' ⟨v, rfl, ho, hb⟩
  have hO := hid ho
  clear ho
  go_wp2_with fail
  go_ret2
  exact ⟨_, rfl, hO.out, hb⟩

set_option maxHeartbeats 1000000 in
theorem lwithNo4 (ao : Option Addr) (n cap : Nat) (at_ x : Int) (w : World) (hat : -9223372036854775808 ≤ at_ ∧ at_ ≤ 9223372036854775807) (hl : n ≤ 140737488355328) (h : ¬ (0 ≤ at_ ∧ at_ + 4 ≤ (n : Int))) (hx : 0 ≤ x ∧ x ≤ 18446744073709551615) :
    Calls Try.prog 30 #[.int .i64 4, .slice ao n cap, .int .i64 at_, .int .u64 x] w fun e w' => e = .returned (.tuple #[.slice none 0 0, .int .i64 20]) ∧ w = w' := by
  have hh := hid h
  clear h
  go_enter Try.func30, Try.ntmps30
  go_wp2_with fail
  refine (withNo4 _ _ _ _ (x % 4294967296) _ hat hl hh.out).mono ?_
  rintro e w' ⟨rfl, rfl⟩
  go_wp2_with fail
  go_ret2
  exact ⟨rfl, rfl⟩


set_option maxHeartbeats 1000000 in
theorem lat8 (ao : Option Addr) (n cap : Nat) (l : List Int) (k : Nat) (w : World) (hn : n = l.length) (hl : l.length ≤ 140737488351232) (hcap : l.length ≤ cap) (hi : Ints .u8 w ao l) (hk : k + 8 ≤ l.length) :
    Calls Try.prog 29 #[.int .i64 8, .slice ao n cap, .int .i64 k] w fun e w' => e = .returned (.tuple #[.int .u64 (num ((l.drop k).take 8)), .int .i64 0]) ∧ w = w' := by
  subst hn
  have hbd : Hid (0 ≤ num ((l.drop k).take 8) ∧ num ((l.drop k).take 8) < 256 ^ 8) := by
    have h1 := num_bd ((l.drop k).take 8) (fun b hb => wf_u8.1 (hi.wf b (List.mem_of_mem_drop (List.mem_of_mem_take hb))))
    have h2 : ((l.drop k).take 8).length = 8 := by rw [List.length_take, List.length_drop]; omega
    rw [h2] at h1
    exact h1
  have hI := hid hi
  clear hi
  generalize hgx : num ((l.drop k).take 8) = x at *
  have hX := hid hgx
  clear hgx
  go_enter Try.func29, Try.ntmps29
  go_wp2_with fail
  refine (at8 _ _ _ l k _ rfl hl hcap hI.out hk).mono ?_
  rintro e w' ⟨rfl, rfl⟩
  rw [hX.out]
  have hb1 := hbd.out.1
  have hb2 : x ≤ 18446744073709551615 := by have := hbd.out.2; omega
  go_wp2_with fail
  go_ret2
  exact ⟨rfl, rfl⟩

set_option maxHeartbeats 1000000 in
theorem latNo8 (ao : Option Addr) (n cap : Nat) (at_ : Int) (w : World) (hat : -9223372036854775808 ≤ at_ ∧ at_ ≤ 9223372036854775807) (hl : n ≤ 140737488355328) (h : ¬ (0 ≤ at_ ∧ at_ + 8 ≤ (n : Int))) :
    Calls Try.prog 29 #[.int .i64 8, .slice ao n cap, .int .i64 at_] w fun e w' => e = .returned (.tuple #[.int .u64 0, .int .i64 20]) ∧ w = w' := by
  have hh := hid h
  clear h
  go_enter Try.func29, Try.ntmps29
  go_wp2_with fail
  refine (atNo8 _ _ _ _ _ hat hl hh.out).mono ?_
  rintro e w' ⟨rfl, rfl⟩
  go_wp2_with fail
  go_ret2
  exact ⟨rfl, rfl⟩

set_option maxHeartbeats 1000000 in
theorem lwith8 (ao : Option Addr) (n cap : Nat) (l : List Int) (k : Nat) (x : Int) (w : World) (hn : n = l.length) (hl : l.length ≤ 140737488351232) (hcap : l.length ≤ cap) (hi : Ints .u8 w ao l) (hx : 0 ≤ x ∧ x ≤ 18446744073709551615) (hk : k + 8 ≤ l.length) :
    Calls Try.prog 30 #[.int .i64 8, .slice ao n cap, .int .i64 k, .int .u64 x] w fun e w' => ∃ v, e = .returned (.tuple #[v, .int .i64 0]) ∧ w'.ownsRow w.heap.size 5 1 v n ((withL 8 l k (x % 256 ^ 8)).map (Value.int .u8)) ∧ Below w.heap.size w w' := by
  subst hn
  have hI := hid hi
  clear hi
  have hxe : Hid (x % 256 ^ 8 = x) := by unfold Hid; omega
  rw [hxe.out]
  go_enter Try.func30, Try.ntmps30
  go_wp2_with fail
  refine (with8 _ _ _ l k (x) _ rfl hl hcap hI.out (by omega) hk).mono ?_
  rintro e w' ⟨v, rfl, ho, hb⟩
  have hO := hid ho
  clear ho
  go_wp2_with fail
  go_ret2
  exact ⟨_, rfl, hO.out, hb⟩

set_option maxHeartbeats 1000000 in
theorem lwithNo8 (ao : Option Addr) (n cap : Nat) (at_ x : Int) (w : World) (hat : -9223372036854775808 ≤ at_ ∧ at_ ≤ 9223372036854775807) (hl : n ≤ 140737488355328) (h : ¬ (0 ≤ at_ ∧ at_ + 8 ≤ (n : Int))) (hx : 0 ≤ x ∧ x ≤ 18446744073709551615) :
    Calls Try.prog 30 #[.int .i64 8, .slice ao n cap, .int .i64 at_, .int .u64 x] w fun e w' => e = .returned (.tuple #[.slice none 0 0, .int .i64 20]) ∧ w = w' := by
  have hh := hid h
  clear h
  go_enter Try.func30, Try.ntmps30
  go_wp2_with fail
  refine (withNo8 _ _ _ _ (x) _ hat hl hh.out).mono ?_
  rintro e w' ⟨rfl, rfl⟩
  go_wp2_with fail
  go_ret2
  exact ⟨rfl, rfl⟩

end Go.Proofs.Ytdhicfolchpmhaa
