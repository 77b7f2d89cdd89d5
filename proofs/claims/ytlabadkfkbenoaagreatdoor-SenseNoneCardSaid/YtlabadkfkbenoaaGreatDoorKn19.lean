/- Walks and plain laws, merged: SenR SenS. No condition. -/
import Derived.Lib.SliceRun
import Derived.Test.YtlabadkfkbenoaaGreatDoorKn18
import Derived.Test.YtlabadkfkbenoaaGreatDoorKn07
namespace Go.Proofs.YtlabadkfkbenoaaGreatDoor
open Go.RowKit
set_option linter.unusedVariables false
set_option linter.unusedSimpArgs false
set_option maxRecDepth 100000
section
open Go.Shelf
theorem wpList_append_all {P : Program} {w : World} {ops : Array Oper} {rest : List Oper} {o : Oper} {a : Act} {Q : Exit → Act → World → Prop} (hgd : o.guard = none) (s x : Operand) (t : TypeId)
  (ho : o.op = .call { callee := .builtin .append, args := #[s, x], argTypes := #[t, t] })
  (base : Nat) (e : TypeId) (z : Value) (size bytes m : Nat) (ht : P.underlying t = some (.slice e)) (hinfo : (P.info? e).map (fun i => (i.zero, i.size, i.bytes)) = some (some z, size, bytes))
  (hzs : z.cells.size = size) (hsz : 0 < size) (v : Value) (n : Nat) (xs : List Value) (hown : w.ownsRow base e size v n xs)
  (ad : Addr) (c : Nat) (news : List Value) (hl : news.length = m * size) (hnews : ∀ j u, news[j]? = some u → w.cell? (ad.add j) = some u) (h1 : ∀ u ∈ news, u.oneCell' = true)
  (h63 : n + m ≤ maxLen) (hbytes : (n + m) * bytes ≤ 140737488355328) (hbase : base ≤ w.heap.size)
  (hs : a.eval s = v) (hx : a.eval x = .slice (some ad) m c)
  (h : ∀ v' w', Appended w w' base e size v v' n m xs news → wpList P ops Q rest (a.put o.dst v') w') :
  wpList P ops Q (o :: rest) a w := by
 obtain ⟨i, hi, hz0, hz1, hz2⟩ := info_parts hinfo
 subst hz1
 subst hz2
 refine wpList_plain hgd fun K hK => ?_
 obtain ⟨v', w', hr, hA⟩ := append_strong (P := P) w base t o.type e i z ht hi hz0 hzs hsz v n xs hown ad m c news hl hnews h1 h63 hbytes hbase
 unfold Oper.wp execOp
 simp only [ho, resolve, invoke, builtin, Sem.run_bind, Sem.run_pure, Result.andThen_ok, List.map_toArray, List.map_cons, List.map_nil, hs, hx, hr]
 exact hK _ _ (h v' w' hA)
theorem ownsRow_empty (w : World) (e : TypeId) (size : Nat) : (w.alloc (.cells #[] e)).ownsRow w.heap.size e size (.slice (some ⟨w.heap.size, 0, none⟩) 0 0) 0 [] :=
 ⟨by simp, .inr ⟨w.heap.size, 0, #[], rfl, Nat.le_refl _, heap_alloc_new w _, Nat.le_refl _, by decide, by simp, by simp⟩⟩
set_option maxHeartbeats 2000000 in
theorem clone45 (ka : Option Addr) (m c : Nat) (news : List Value) (w : World) (hl : news.length = m * 1) (hn : Hid (m = 0 ∨ ∃ a, ka = some a ∧ ∀ j u, news[j]? = some u → w.cell? (a.add j) = some u)) (h1 : Hid (∀ u ∈ news, u.oneCell' = true)) (hm : m ≤ 100000000) :
  Calls Tryz.prog 45 #[.slice ka m c] w fun e w' => ∃ v', e = .returned v' ∧ w'.ownsRow w.heap.size 52 1 v' m news ∧ Below w.heap.size w w' := by
 have qT : ∀ (w : World) (a : Option Addr) (n c n' c' : Nat), (binOp .eql 27 (.slice a n c) (.slice none n' c')).run Tryz.prog w = .ok (.bool a.isNone) w := fun w a n c n' c' => Lib.run_eql_slice_nil w _ _ a n c n' c' Tryz.underlying27
 cases ka with
 | none =>
  have hm0 : m = 0 := by rcases hn.out with h | ⟨a, h, _⟩; exact h; cases h
  subst hm0
  have hnil : news = [] := List.eq_nil_of_length_eq_zero (by simpa using hl)
  subst hnil
  go_enter Tryz.func45, Tryz.ntmps45
  go_wp2_with fail
  go_ret
  exact ⟨_, rfl, World.ownsRow_nil _ _ _ _, Below.refl _ _⟩
 | some ad =>
  have hrow := hid (ownsRow_empty w 52 1)
  have hB := hid ((Below.refl w.heap.size w).alloc (Nat.le_refl _) (.cells #[] 52))
  have hc : Hid (∀ j u, news[j]? = some u → (w.alloc (.cells #[] 52)).cell? (ad.add j) = some u) := hid (fun j u hj => by
   rcases hn.out with h | ⟨a, h, h2⟩
   ·subst h
    have hnil : news = [] := List.eq_nil_of_length_eq_zero (by simpa using hl)
    subst hnil
    simp at hj
   ·cases h
    exact cell_on (h2 j u hj) hB.out)
  go_enter Tryz.func45, Tryz.ntmps45
  go_wp2_with (at_builtin; refine wpList_append_all rfl _ _ 27 rfl w.heap.size 52 (.int .u32 0) 1 4 m Tryz.underlying27 (by kernel_rfl) rfl (by decide) _ 0 [] hrow.out ad c news hl hc.out h1.out (by unfold maxLen; omega) (by omega) (by simp) rfl rfl ?_; intro v' w' hA; have hR := hid hA.own; have hB2 := hid (hB.out.trans (below_of_own hA hrow.out (by simp))); clear hA)
  go_ret
  refine ⟨_, rfl, ?_, hB2.out⟩
  have := hR.out
  rwa [Nat.zero_add, List.nil_append] at this
set_option maxHeartbeats 2000000 in
theorem clone68 (ka : Option Addr) (m c : Nat) (news : List Value) (w : World) (hl : news.length = m * 5) (hn : Hid (m = 0 ∨ ∃ a, ka = some a ∧ ∀ j u, news[j]? = some u → w.cell? (a.add j) = some u)) (h1 : Hid (∀ u ∈ news, u.oneCell' = true)) (hm : m ≤ 100000000) :
  Calls Tryz.prog 68 #[.slice ka m c] w fun e w' => ∃ v', e = .returned v' ∧ w'.ownsRow w.heap.size 105 5 v' m news ∧ Below w.heap.size w w' := by
 have qT : ∀ (w : World) (a : Option Addr) (n c n' c' : Nat), (binOp .eql 22 (.slice a n c) (.slice none n' c')).run Tryz.prog w = .ok (.bool a.isNone) w := fun w a n c n' c' => Lib.run_eql_slice_nil w _ _ a n c n' c' Tryz.underlying22
 cases ka with
 | none =>
  have hm0 : m = 0 := by rcases hn.out with h | ⟨a, h, _⟩; exact h; cases h
  subst hm0
  have hnil : news = [] := List.eq_nil_of_length_eq_zero (by simpa using hl)
  subst hnil
  go_enter Tryz.func68, Tryz.ntmps68
  go_wp2_with fail
  go_ret
  exact ⟨_, rfl, World.ownsRow_nil _ _ _ _, Below.refl _ _⟩
 | some ad =>
  have hrow := hid (ownsRow_empty w 105 5)
  have hB := hid ((Below.refl w.heap.size w).alloc (Nat.le_refl _) (.cells #[] 105))
  have hc : Hid (∀ j u, news[j]? = some u → (w.alloc (.cells #[] 105)).cell? (ad.add j) = some u) := hid (fun j u hj => by
   rcases hn.out with h | ⟨a, h, h2⟩
   ·subst h
    have hnil : news = [] := List.eq_nil_of_length_eq_zero (by simpa using hl)
    subst hnil
    simp at hj
   ·cases h
    exact cell_on (h2 j u hj) hB.out)
  go_enter Tryz.func68, Tryz.ntmps68
  go_wp2_with (at_builtin; refine wpList_append_all rfl _ _ 22 rfl w.heap.size 105 (.agg #[.int .i64 0, .string ⟨#[]⟩, .int .u8 0, .int .u32 0, .int .u32 0]) 5 40 m Tryz.underlying22 (by kernel_rfl) rfl (by decide) _ 0 [] hrow.out ad c news hl hc.out h1.out (by unfold maxLen; omega) (by omega) (by simp) rfl rfl ?_; intro v' w' hA; have hR := hid hA.own; have hB2 := hid (hB.out.trans (below_of_own hA hrow.out (by simp))); clear hA)
  go_ret
  refine ⟨_, rfl, ?_, hB2.out⟩
  have := hR.out
  rwa [Nat.zero_add, List.nil_append] at this
set_option maxHeartbeats 2000000 in
theorem clone69 (ka : Option Addr) (m c : Nat) (news : List Value) (w : World) (hl : news.length = m * 5) (hn : Hid (m = 0 ∨ ∃ a, ka = some a ∧ ∀ j u, news[j]? = some u → w.cell? (a.add j) = some u)) (h1 : Hid (∀ u ∈ news, u.oneCell' = true)) (hm : m ≤ 100000000) :
  Calls Tryz.prog 69 #[.slice ka m c] w fun e w' => ∃ v', e = .returned v' ∧ w'.ownsRow w.heap.size 101 5 v' m news ∧ Below w.heap.size w w' := by
 have qT : ∀ (w : World) (a : Option Addr) (n c n' c' : Nat), (binOp .eql 23 (.slice a n c) (.slice none n' c')).run Tryz.prog w = .ok (.bool a.isNone) w := fun w a n c n' c' => Lib.run_eql_slice_nil w _ _ a n c n' c' Tryz.underlying23
 cases ka with
 | none =>
  have hm0 : m = 0 := by rcases hn.out with h | ⟨a, h, _⟩; exact h; cases h
  subst hm0
  have hnil : news = [] := List.eq_nil_of_length_eq_zero (by simpa using hl)
  subst hnil
  go_enter Tryz.func69, Tryz.ntmps69
  go_wp2_with fail
  go_ret
  exact ⟨_, rfl, World.ownsRow_nil _ _ _ _, Below.refl _ _⟩
 | some ad =>
  have hrow := hid (ownsRow_empty w 101 5)
  have hB := hid ((Below.refl w.heap.size w).alloc (Nat.le_refl _) (.cells #[] 101))
  have hc : Hid (∀ j u, news[j]? = some u → (w.alloc (.cells #[] 101)).cell? (ad.add j) = some u) := hid (fun j u hj => by
   rcases hn.out with h | ⟨a, h, h2⟩
   ·subst h
    have hnil : news = [] := List.eq_nil_of_length_eq_zero (by simpa using hl)
    subst hnil
    simp at hj
   ·cases h
    exact cell_on (h2 j u hj) hB.out)
  go_enter Tryz.func69, Tryz.ntmps69
  go_wp2_with (at_builtin; refine wpList_append_all rfl _ _ 23 rfl w.heap.size 101 (.agg #[.int .i64 0, .string ⟨#[]⟩, .slice none 0 0, .int .u8 0, .int .u32 0]) 5 56 m Tryz.underlying23 (by kernel_rfl) rfl (by decide) _ 0 [] hrow.out ad c news hl hc.out h1.out (by unfold maxLen; omega) (by omega) (by simp) rfl rfl ?_; intro v' w' hA; have hR := hid hA.own; have hB2 := hid (hB.out.trans (below_of_own hA hrow.out (by simp))); clear hA)
  go_ret
  refine ⟨_, rfl, ?_, hB2.out⟩
  have := hR.out
  rwa [Nat.zero_add, List.nil_append] at this
set_option maxHeartbeats 2000000 in
theorem clone70 (ka : Option Addr) (m c : Nat) (news : List Value) (w : World) (hl : news.length = m * 6) (hn : Hid (m = 0 ∨ ∃ a, ka = some a ∧ ∀ j u, news[j]? = some u → w.cell? (a.add j) = some u)) (h1 : Hid (∀ u ∈ news, u.oneCell' = true)) (hm : m ≤ 100000000) :
  Calls Tryz.prog 70 #[.slice ka m c] w fun e w' => ∃ v', e = .returned v' ∧ w'.ownsRow w.heap.size 43 6 v' m news ∧ Below w.heap.size w w' := by
 have qT : ∀ (w : World) (a : Option Addr) (n c n' c' : Nat), (binOp .eql 24 (.slice a n c) (.slice none n' c')).run Tryz.prog w = .ok (.bool a.isNone) w := fun w a n c n' c' => Lib.run_eql_slice_nil w _ _ a n c n' c' Tryz.underlying24
 cases ka with
 | none =>
  have hm0 : m = 0 := by rcases hn.out with h | ⟨a, h, _⟩; exact h; cases h
  subst hm0
  have hnil : news = [] := List.eq_nil_of_length_eq_zero (by simpa using hl)
  subst hnil
  go_enter Tryz.func70, Tryz.ntmps70
  go_wp2_with fail
  go_ret
  exact ⟨_, rfl, World.ownsRow_nil _ _ _ _, Below.refl _ _⟩
 | some ad =>
  have hrow := hid (ownsRow_empty w 43 6)
  have hB := hid ((Below.refl w.heap.size w).alloc (Nat.le_refl _) (.cells #[] 43))
  have hc : Hid (∀ j u, news[j]? = some u → (w.alloc (.cells #[] 43)).cell? (ad.add j) = some u) := hid (fun j u hj => by
   rcases hn.out with h | ⟨a, h, h2⟩
   ·subst h
    have hnil : news = [] := List.eq_nil_of_length_eq_zero (by simpa using hl)
    subst hnil
    simp at hj
   ·cases h
    exact cell_on (h2 j u hj) hB.out)
  go_enter Tryz.func70, Tryz.ntmps70
  go_wp2_with (at_builtin; refine wpList_append_all rfl _ _ 24 rfl w.heap.size 43 (.agg #[.int .i64 0, .string ⟨#[]⟩, .slice none 0 0, .int .u8 0, .bool false, .slice none 0 0]) 6 80 m Tryz.underlying24 (by kernel_rfl) rfl (by decide) _ 0 [] hrow.out ad c news hl hc.out h1.out (by unfold maxLen; omega) (by omega) (by simp) rfl rfl ?_; intro v' w' hA; have hR := hid hA.own; have hB2 := hid (hB.out.trans (below_of_own hA hrow.out (by simp))); clear hA)
  go_ret
  refine ⟨_, rfl, ?_, hB2.out⟩
  have := hR.out
  rwa [Nat.zero_add, List.nil_append] at this
set_option maxHeartbeats 2000000 in
theorem clone71 (ka : Option Addr) (m c : Nat) (news : List Value) (w : World) (hl : news.length = m * 2) (hn : Hid (m = 0 ∨ ∃ a, ka = some a ∧ ∀ j u, news[j]? = some u → w.cell? (a.add j) = some u)) (h1 : Hid (∀ u ∈ news, u.oneCell' = true)) (hm : m ≤ 100000000) :
  Calls Tryz.prog 71 #[.slice ka m c] w fun e w' => ∃ v', e = .returned v' ∧ w'.ownsRow w.heap.size 46 2 v' m news ∧ Below w.heap.size w w' := by
 have qT : ∀ (w : World) (a : Option Addr) (n c n' c' : Nat), (binOp .eql 39 (.slice a n c) (.slice none n' c')).run Tryz.prog w = .ok (.bool a.isNone) w := fun w a n c n' c' => Lib.run_eql_slice_nil w _ _ a n c n' c' Tryz.underlying39
 cases ka with
 | none =>
  have hm0 : m = 0 := by rcases hn.out with h | ⟨a, h, _⟩; exact h; cases h
  subst hm0
  have hnil : news = [] := List.eq_nil_of_length_eq_zero (by simpa using hl)
  subst hnil
  go_enter Tryz.func71, Tryz.ntmps71
  go_wp2_with fail
  go_ret
  exact ⟨_, rfl, World.ownsRow_nil _ _ _ _, Below.refl _ _⟩
 | some ad =>
  have hrow := hid (ownsRow_empty w 46 2)
  have hB := hid ((Below.refl w.heap.size w).alloc (Nat.le_refl _) (.cells #[] 46))
  have hc : Hid (∀ j u, news[j]? = some u → (w.alloc (.cells #[] 46)).cell? (ad.add j) = some u) := hid (fun j u hj => by
   rcases hn.out with h | ⟨a, h, h2⟩
   ·subst h
    have hnil : news = [] := List.eq_nil_of_length_eq_zero (by simpa using hl)
    subst hnil
    simp at hj
   ·cases h
    exact cell_on (h2 j u hj) hB.out)
  go_enter Tryz.func71, Tryz.ntmps71
  go_wp2_with (at_builtin; refine wpList_append_all rfl _ _ 39 rfl w.heap.size 46 (.agg #[.string ⟨#[]⟩, .int .u8 0]) 2 24 m Tryz.underlying39 (by kernel_rfl) rfl (by decide) _ 0 [] hrow.out ad c news hl hc.out h1.out (by unfold maxLen; omega) (by omega) (by simp) rfl rfl ?_; intro v' w' hA; have hR := hid hA.own; have hB2 := hid (hB.out.trans (below_of_own hA hrow.out (by simp))); clear hA)
  go_ret
  refine ⟨_, rfl, ?_, hB2.out⟩
  have := hR.out
  rwa [Nat.zero_add, List.nil_append] at this
set_option maxHeartbeats 2000000 in
theorem clone113 (ka : Option Addr) (m c : Nat) (news : List Value) (w : World) (hl : news.length = m * 8) (hn : Hid (m = 0 ∨ ∃ a, ka = some a ∧ ∀ j u, news[j]? = some u → w.cell? (a.add j) = some u)) (h1 : Hid (∀ u ∈ news, u.oneCell' = true)) (hm : m ≤ 100000000) :
  Calls Tryz.prog 113 #[.slice ka m c] w fun e w' => ∃ v', e = .returned v' ∧ w'.ownsRow w.heap.size 109 8 v' m news ∧ Below w.heap.size w w' := by
 have qT : ∀ (w : World) (a : Option Addr) (n c n' c' : Nat), (binOp .eql 41 (.slice a n c) (.slice none n' c')).run Tryz.prog w = .ok (.bool a.isNone) w := fun w a n c n' c' => Lib.run_eql_slice_nil w _ _ a n c n' c' Tryz.underlying41
 cases ka with
 | none =>
  have hm0 : m = 0 := by rcases hn.out with h | ⟨a, h, _⟩; exact h; cases h
  subst hm0
  have hnil : news = [] := List.eq_nil_of_length_eq_zero (by simpa using hl)
  subst hnil
  go_enter Tryz.func113, Tryz.ntmps113
  go_wp2_with fail
  go_ret
  exact ⟨_, rfl, World.ownsRow_nil _ _ _ _, Below.refl _ _⟩
 | some ad =>
  have hrow := hid (ownsRow_empty w 109 8)
  have hB := hid ((Below.refl w.heap.size w).alloc (Nat.le_refl _) (.cells #[] 109))
  have hc : Hid (∀ j u, news[j]? = some u → (w.alloc (.cells #[] 109)).cell? (ad.add j) = some u) := hid (fun j u hj => by
   rcases hn.out with h | ⟨a, h, h2⟩
   ·subst h
    have hnil : news = [] := List.eq_nil_of_length_eq_zero (by simpa using hl)
    subst hnil
    simp at hj
   ·cases h
    exact cell_on (h2 j u hj) hB.out)
  go_enter Tryz.func113, Tryz.ntmps113
  go_wp2_with (at_builtin; refine wpList_append_all rfl _ _ 41 rfl w.heap.size 109 (.agg #[.int .i64 0, .int .u8 0, .string ⟨#[]⟩, .int .u8 0, .string ⟨#[]⟩, .slice none 0 0, .slice none 0 0, .slice none 0 0]) 8 128 m Tryz.underlying41 (by kernel_rfl) rfl (by decide) _ 0 [] hrow.out ad c news hl hc.out h1.out (by unfold maxLen; omega) (by omega) (by simp) rfl rfl ?_; intro v' w' hA; have hR := hid hA.own; have hB2 := hid (hB.out.trans (below_of_own hA hrow.out (by simp))); clear hA)
  go_ret
  refine ⟨_, rfl, ?_, hB2.out⟩
  have := hR.out
  rwa [Nat.zero_add, List.nil_append] at this
set_option maxHeartbeats 2000000 in
theorem clone142 (ka : Option Addr) (m c : Nat) (news : List Value) (w : World) (hl : news.length = m * 7) (hn : Hid (m = 0 ∨ ∃ a, ka = some a ∧ ∀ j u, news[j]? = some u → w.cell? (a.add j) = some u)) (h1 : Hid (∀ u ∈ news, u.oneCell' = true)) (hm : m ≤ 100000000) :
  Calls Tryz.prog 142 #[.slice ka m c] w fun e w' => ∃ v', e = .returned v' ∧ w'.ownsRow w.heap.size 134 7 v' m news ∧ Below w.heap.size w w' := by
 have qT : ∀ (w : World) (a : Option Addr) (n c n' c' : Nat), (binOp .eql 107 (.slice a n c) (.slice none n' c')).run Tryz.prog w = .ok (.bool a.isNone) w := fun w a n c n' c' => Lib.run_eql_slice_nil w _ _ a n c n' c' Tryz.underlying107
 cases ka with
 | none =>
  have hm0 : m = 0 := by rcases hn.out with h | ⟨a, h, _⟩; exact h; cases h
  subst hm0
  have hnil : news = [] := List.eq_nil_of_length_eq_zero (by simpa using hl)
  subst hnil
  go_enter Tryz.func142, Tryz.ntmps142
  go_wp2_with fail
  go_ret
  exact ⟨_, rfl, World.ownsRow_nil _ _ _ _, Below.refl _ _⟩
 | some ad =>
  have hrow := hid (ownsRow_empty w 134 7)
  have hB := hid ((Below.refl w.heap.size w).alloc (Nat.le_refl _) (.cells #[] 134))
  have hc : Hid (∀ j u, news[j]? = some u → (w.alloc (.cells #[] 134)).cell? (ad.add j) = some u) := hid (fun j u hj => by
   rcases hn.out with h | ⟨a, h, h2⟩
   ·subst h
    have hnil : news = [] := List.eq_nil_of_length_eq_zero (by simpa using hl)
    subst hnil
    simp at hj
   ·cases h
    exact cell_on (h2 j u hj) hB.out)
  go_enter Tryz.func142, Tryz.ntmps142
  go_wp2_with (at_builtin; refine wpList_append_all rfl _ _ 107 rfl w.heap.size 134 (.agg #[.int .i64 0, .int .u8 0, .int .u32 0, .int .u8 0, .string ⟨#[]⟩, .string ⟨#[]⟩, .slice none 0 0]) 7 80 m Tryz.underlying107 (by kernel_rfl) rfl (by decide) _ 0 [] hrow.out ad c news hl hc.out h1.out (by unfold maxLen; omega) (by omega) (by simp) rfl rfl ?_; intro v' w' hA; have hR := hid hA.own; have hB2 := hid (hB.out.trans (below_of_own hA hrow.out (by simp))); clear hA)
  go_ret
  refine ⟨_, rfl, ?_, hB2.out⟩
  have := hR.out
  rwa [Nat.zero_add, List.nil_append] at this
end
section
open Go.Shelf
/-! ### a world of some blocks alone -/
def onlyW (w : World) (p : Nat → Bool) : World := { w with heap := w.heap.mapIdx fun i o => if p i then o else .map #[] 0 }
theorem cell_only (w : World) (p : Nat → Bool) (a : Addr) : (onlyW w p).cell? a = if p a.block then w.cell? a else none := by
 unfold onlyW World.cell?
 simp only [Array.getElem?_mapIdx]
 cases hp : p a.block with
 | true =>
  cases h : w.heap[a.block]? with
  | none => simp
  | some o => simp
 | false =>
  cases h : w.heap[a.block]? with
  | none => simp
  | some o => simp
abbrev Cells (w w' : World) : Prop := ∀ a u, w.cell? a = some u → w'.cell? a = some u
theorem cells_only (w : World) (p : Nat → Bool) : Cells (onlyW w p) w := fun a u h => by
 rw [cell_only] at h
 split at h
 ·exact h
 ·cases h
theorem cells_move {w w' : World} {p q : Nat → Bool} (h : ∀ a u, p a.block = true → w.cell? a = some u → q a.block = true ∧ w'.cell? a = some u) : Cells (onlyW w p) (onlyW w' q) := fun a u hc => by
 rw [cell_only] at hc ⊢
 split at hc
 ·rename_i hp
  obtain ⟨h1, h2⟩ := h a u hp hc
  rw [if_pos h1]
  exact h2
 ·cases hc
theorem cells_below {w w' : World} (h : Below w.heap.size w w') : Cells w w' := fun _ _ hc => cell_on hc h
theorem HeadE.sub {w w' : World} {h : EH} {b q : Nat} (x : HeadE w false h b q) (hs : Cells w w') : HeadE w' false h b q := by
 obtain ⟨⟨t, y0, y0'⟩, y1, y2, y3, y4, y5⟩ := x
 exact ⟨⟨t, hs _ _ y0, y0'⟩, hs _ _ y1, hs _ _ y2, hs _ _ y3, hs _ _ y4, hs _ _ y5⟩
theorem HeadS.sub {w w' : World} {h : SH} {b q : Nat} (x : HeadS w false h b q) (hs : Cells w w') : HeadS w' false h b q := by
 obtain ⟨⟨t, y0, y0'⟩, y1, y2, y3, y4⟩ := x
 exact ⟨⟨t, hs _ _ y0, y0'⟩, hs _ _ y1, hs _ _ y2, hs _ _ y3, hs _ _ y4⟩
theorem ExsIn.sub {w w' : World} (hs : Cells w w') : ∀ {l : Exs} {b off k : Nat}, ExsIn w false none l b off k → ExsIn w' false none l b off k
 | .nil, _, _, _, _ => trivial
 | .cons h kids rest, b, off, k, ⟨x1, ⟨ka, kb, koff, kcap, y1, y2, y3⟩, x3⟩ =>
  ⟨x1.sub hs, ⟨ka, kb, koff, kcap, hs _ _ y1, y2.imp id (fun z => ⟨z.1, Zone.any⟩), ExsIn.sub hs y3⟩, ExsIn.sub hs x3⟩
theorem SlE.sub {w w' : World} {l : Exs} {v : Value} (h : SlE w false none l v) (hs : Cells w w') : SlE w' false none l v := by
 obtain ⟨ka, kb, koff, kcap, rfl, y2, y3⟩ := h
 exact ⟨ka, kb, koff, kcap, rfl, y2.imp id (fun z => ⟨z.1, Zone.any⟩), y3.sub hs⟩
theorem StsIn.sub {w w' : World} (hs : Cells w w') : ∀ {l : Sts} {b off k : Nat}, StsIn w false none l b off k → StsIn w' false none l b off k
 | .nil, _, _, _, _ => trivial
 | .cons h x body els rest, b, off, k, ⟨x1, ⟨v, z1, z2⟩, ⟨ka, kb, koff, kcap, y1, y2, y3⟩, ⟨ea, eb, eoff, ecap, u1, u2, u3⟩, x3⟩ =>
  ⟨x1.sub hs, ⟨v, hs _ _ z1, z2.sub hs⟩, ⟨ka, kb, koff, kcap, hs _ _ y1, y2.imp id (fun z => ⟨z.1, Zone.any⟩), StsIn.sub hs y3⟩, ⟨ea, eb, eoff, ecap, hs _ _ u1, u2.imp id (fun z => ⟨z.1, Zone.any⟩), StsIn.sub hs u3⟩, StsIn.sub hs x3⟩
theorem SlS.sub {w w' : World} {l : Sts} {v : Value} (h : SlS w false none l v) (hs : Cells w w') : SlS w' false none l v := by
 obtain ⟨ka, kb, koff, kcap, rfl, y2, y3⟩ := h
 exact ⟨ka, kb, koff, kcap, rfl, y2.imp id (fun z => ⟨z.1, Zone.any⟩), y3.sub hs⟩
/-- blocks behind n -/
abbrev newB (n : Nat) : Nat → Bool := fun b => decide (n ≤ b)
/-- blocks behind n but g -/
abbrev newBg (n g : Nat) : Nat → Bool := fun b => decide (n ≤ b) && b != g
theorem BldI.row {α : Type} {w : World} {B : Nat} {e : TypeId} {n : Nat} {R : Nat → α → List Value → Prop} {l : List α} {g cap m : Nat} (h : BldI w B e n R l (.slice (some ⟨g, 0, none⟩) m cap)) (hm : m = l.length) (k : Nat) (hk : k < l.length) :
  ∃ c, R k l[k] c ∧ ∀ j, j < n → w.cell? ⟨g, k * n + j, none⟩ = c[j]? := by
 subst hm
 obtain ⟨cs, h1, h2, h3⟩ := h
 have hl : ∀ i (h : i < cs.length), cs[i].length = n := fun i h => (h2 i (by omega) h).1
 refine ⟨cs[k], (h2 k hk (by omega)).2, fun j hj => ?_⟩
 have hlt : k * n + j < l.length * n := by
  calc k * n + j < k * n + n := by omega
   _ = (k + 1) * n := by rw [Nat.add_mul]; omega
   _ ≤ l.length * n := Nat.mul_le_mul_right _ (by omega)
 rw [h3.cellAt _ hlt, flatten_at hl k (by omega) j hj]
theorem BldI.shape {α : Type} {w : World} {B : Nat} {e : TypeId} {n : Nat} {R : Nat → α → List Value → Prop} {l : List α} {v : Value} (h : BldI w B e n R l v) : ∃ va vc, v = .slice va l.length vc ∧ (l.length = 0 ∨ ∃ g, va = some ⟨g, 0, none⟩) := by
 obtain ⟨cs, h1, h2, h3⟩ := h
 rcases h3.2 with ⟨rfl, hn⟩ | ⟨g, cap, cur, rfl, _⟩
 ·exact ⟨none, 0, by rw [hn], .inl hn⟩
 ·exact ⟨_, _, rfl, .inr ⟨g, rfl⟩⟩
theorem setCell_other (w : World) (b i : Nat) (u : Value) (a : Addr) (h : a.block ≠ b) : (w.setCell ⟨b, i, none⟩ u).cell? a = w.cell? a :=
 World.cell?_of_block (Below.heap_setCell w ⟨b, i, none⟩ u a.block h)
/-- cells of a copied expression: d: its kids are copied -/
def XcE (w0 wr : World) (g : Nat) (d : Bool) (a : EH × Exs) (c : List Value) : Prop :=
 ∃ t v, c = [.int .i64 t, .int .u8 a.1.kind, .int .u32 a.1.word, .int .u8 a.1.type, .string a.1.name, .string a.1.sign, v] ∧ if d then SlE (onlyW wr (newBg w0.heap.size g)) false none a.2 v else SlE w0 false none a.2 v
theorem XcE.on {w0 wr w' : World} {g : Nat} {d : Bool} {a : EH × Exs} {c : List Value} (h : XcE w0 wr g d a c) (hs : Cells (onlyW wr (newBg w0.heap.size g)) (onlyW w' (newBg w0.heap.size g))) : XcE w0 w' g d a c := by
 obtain ⟨t, v, hc, hv⟩ := h
 refine ⟨t, v, hc, ?_⟩
 cases d
 ·exact hv
 ·exact hv.sub hs
theorem cells_g_below {w w' : World} {n g : Nat} (h : Below w.heap.size w w') : Cells (onlyW w (newBg n g)) (onlyW w' (newBg n g)) := cells_move fun a u hp hc => ⟨hp, cell_on hc h⟩
theorem cells_g_set {w : World} {n g i : Nat} {u : Value} : Cells (onlyW w (newBg n g)) (onlyW (w.setCell ⟨g, i, none⟩ u) (newBg n g)) := cells_move fun a v hp hc => ⟨hp, by
 rw [setCell_other _ _ _ _ _ (by simp at hp; exact hp.2)]
 exact hc⟩
theorem ExpR.cells {w : World} {a : EH × Exs} {b q : Nat} (h : ExpR w false none a b q) : ∃ c : List Value, c.length = 7 ∧ XcE w w 0 false a c ∧ (∀ u ∈ c, u.oneCell' = true) ∧ ∀ j u, c[j]? = some u → w.cell? ⟨b, q + j, none⟩ = some u := by
 obtain ⟨⟨⟨t, y0, _⟩, y1, y2, y3, y4, y5⟩, ⟨v, y6, hv⟩⟩ := h
 have hv2 := hv
 obtain ⟨ka, kc, rfl⟩ := hv2.shape'
 refine ⟨_, rfl, ⟨t, _, rfl, hv⟩, by simp [Value.oneCell'], fun j u hj => ?_⟩
 match j, hj with
 | 0, hj => simp at hj; subst hj; exact y0
 | 1, hj => simp at hj; subst hj; exact y1
 | 2, hj => simp at hj; subst hj; exact y2
 | 3, hj => simp at hj; subst hj; exact y3
 | 4, hj => simp at hj; subst hj; exact y4
 | 5, hj => simp at hj; subst hj; exact y5
 | 6, hj => simp at hj; subst hj; exact y6
 | j + 7, hj => simp at hj
/-- all is copied -/
theorem copied_done {w0 wr : World} {l : Exs} {v : Value} (hg : ∀ g, v.ownBlock = some g → BldI wr w0.heap.size 134 7 (fun _ => XcE w0 wr g true) l.toL v) (hn : v.ownBlock = none → l.len = 0) (hs : ∃ va vc, v = .slice va l.len vc ∧ (l.len = 0 ∨ ∃ g, va = some ⟨g, 0, none⟩)) : SlE (onlyW wr (newB w0.heap.size)) false none l v := by
 obtain ⟨va, vc, rfl, hs⟩ := hs
 rcases hs with h0 | ⟨g, rfl⟩
 ·cases l with
  | nil => exact ⟨va, 0, 0, vc, rfl, .inl ⟨rfl, rfl⟩, trivial⟩
  | cons h k r => simp [Exs.len] at h0
 ·have h := hg g rfl
  refine SlE_iff.2 ⟨_, g, 0, vc, by rw [Exs.toL_len], .inr ⟨rfl, Zone.any⟩, fun i hi => ?_⟩
  obtain ⟨c, ⟨t, v, rfl, hv⟩, hc⟩ := h.row (by rw [Exs.toL_len]) i hi
  have hge := (h.lt g rfl).1
  have hb : ∀ j u, j < 7 → ([Value.int .i64 t, .int .u8 l.toL[i].1.kind, .int .u32 l.toL[i].1.word, .int .u8 l.toL[i].1.type, .string l.toL[i].1.name, .string l.toL[i].1.sign, v] : List Value)[j]? = some u → (onlyW wr (newB w0.heap.size)).cell? ⟨g, 0 + i * 7 + j, none⟩ = some u := fun j u hj hu => by
   rw [cell_only, if_pos (by simpa using hge), Nat.zero_add, hc j hj, hu]
  exact ⟨⟨⟨t, hb 0 _ (by omega) rfl, fun e => by cases e⟩, hb 1 _ (by omega) rfl, hb 2 _ (by omega) rfl, hb 3 _ (by omega) rfl, hb 4 _ (by omega) rfl, hb 5 _ (by omega) rfl⟩,
   ⟨v, hb 6 _ (by omega) rfl, hv.sub (cells_move fun a u hp hc => ⟨by simp at hp ⊢; exact hp.1, hc⟩)⟩⟩
set_option maxHeartbeats 8000000 in
theorem expressions114 : ∀ (n : Nat) (l : Exs) (v : Value) (w : World), l.sz < n → l.sz ≤ 100000000 → SlE w false none l v →
  Calls Tryz.prog 114 #[v] w fun e w' => ∃ v', e = .returned v' ∧ SlE (onlyW w' (newB w.heap.size)) false none l v' ∧ Below w.heap.size w w' := by
 intro n
 induction n with
 | zero => intro l v w hn; omega
 | succ n ih =>
  have IH := hid ih
  clear ih
  intro l v w hn hs hv
  have hl := l.len_le
  have hS := hid (And.intro hn hs)
  have hV := hid hv
  obtain ⟨ka, kc, rfl⟩ := hv.shape'
  obtain ⟨cs, c1, c2, c3, -, c5, c6⟩ := SlR.cells (by omega) (SlE_iff.1 hv) (XcE w w 0 false) (fun a b q h => h.cells)
  have hll : l.toL.length = l.len := Exs.toL_len l
  have cc := hid (clone142 ka l.len kc cs.flatten w c5 (hid c6) (hid c3) (by omega))
  have C12 := hid (And.intro c1 c2)
  have HLL := hid hll
  obtain ⟨len, hlen⟩ : ∃ m, m = l.len := ⟨_, rfl⟩
  rw [← hlen] at cc
  rw [← hlen] at hl
  rw [← hlen]
  have hkb : len ≤ 100000000 := by have := hS.out; omega
  have HL := hid hlen
  clear hn hs hv c1 c2 c3 c5 c6 hll hlen
  go_enter Tryz.func114, Tryz.ntmps114
  go_wp2_with fail
  refine cc.out.mono ?_
  clear cc
  rintro e w1 ⟨v1, rfl, hown, hb1⟩
  have hB1 := hid hb1
  have hBD : Hid (∀ g, BldI w1 w.heap.size 134 7 (fun i => XcE w w1 g (decide (i < 0))) l.toL v1) := hid (fun g => ⟨cs, C12.out.1, fun i h h' => ⟨(C12.out.2 i h h').1, by
   obtain ⟨t, v, hc, hv⟩ := (C12.out.2 i h h').2
   exact ⟨t, v, hc, by simpa using hv⟩⟩, by rw [HLL.out, ← HL.out]; exact hown⟩)
  have hsh := (hBD.out 0).shape
  rw [HLL.out, ← HL.out] at hsh
  obtain ⟨va, vc, rfl, hva⟩ := hsh
  clear hown hb1 C12
  go_wp2_with fail
  go_loopw [10] (fun i wr => ∃ k : Nat, i = .int .i64 k ∧ k ≤ len ∧ (∀ g, (Value.slice va len vc).ownBlock = some g → BldI wr w.heap.size 134 7 (fun i => XcE w wr g (decide (i < k))) l.toL (.slice va len vc)) ∧ Below w.heap.size w wr) (fun i _ => len - (intOf i).toNat)
  case atStart => exact ⟨0, rfl, Nat.zero_le _, fun g _ => hBD.out g, hB1.out⟩
  case round =>
   clear hBD hB1
   obtain ⟨k, rfl, hk, hbd, hb⟩ := hrel
   have HB := hid hb
   have HBD := hid hbd
   clear hbd
   by_cases hlt : k < len
   ·have hva2 : ∃ g, va = some ⟨g, 0, none⟩ := by rcases hva with q | q; (· omega); (· exact q)
    obtain ⟨g, rfl⟩ := hva2
    have hD := HBD.out g rfl
    have hkl : k < l.toL.length := by rw [HLL.out, ← HL.out]; exact hlt
    obtain ⟨c, ⟨t, vk, hc, hvk⟩, hcell⟩ := hD.row (by rw [HLL.out, ← HL.out]) k hkl
    simp only [Nat.lt_irrefl, decide_false, Bool.false_eq_true, if_false] at hvk
    have hsz := Exs.toL_sz l _ (List.getElem_mem hkl)
    have hR2 : Hid (∀ (w2 : World) (u : Value), BldI w2 w.heap.size 134 7 (fun i => XcE w w2 g (decide (i < k))) l.toL (.slice (some ⟨g, 0, none⟩) len vc) → SlE (onlyW (w2.setCell ⟨g, k * 7 + 6, none⟩ u) (newBg w.heap.size g)) false none l.toL[k].2 u → BldI (w2.setCell ⟨g, k * 7 + 6, none⟩ u) w.heap.size 134 7 (fun i => XcE w (w2.setCell ⟨g, k * 7 + 6, none⟩ u) g (decide (i < k + 1))) l.toL (.slice (some ⟨g, 0, none⟩) len vc)) := hid (fun w2 u hD2 hu => by
     refine hD2.store (by rw [HLL.out, ← HL.out]) k hkl 6 (by omega) u (fun i a c hi hx => ?_) (fun c hx => ?_)
     ·have e1 : decide (i < k + 1) = decide (i < k) := by simp; omega
      rw [e1]
      exact hx.on cells_g_set
     ·obtain ⟨t, v, rfl, -⟩ := hx
      exact ⟨t, u, rfl, by simpa using hu⟩)
    obtain ⟨ak, hak⟩ : ∃ a, a = l.toL[k] := ⟨_, rfl⟩
    rw [← hak] at hc hvk hsz hR2
    obtain ⟨⟨b0, b1, b2, b3, b4, b5⟩, kids⟩ := ak
    simp only [] at hc hvk hsz hR2
    subst hc
    obtain ⟨xa, xc, rfl⟩ := hvk.shape'
    have x0 := hcell 0 (by omega)
    have x1 := hcell 1 (by omega)
    have x2 := hcell 2 (by omega)
    have x3 := hcell 3 (by omega)
    have x4 := hcell 4 (by omega)
    have x5 := hcell 5 (by omega)
    have x6 := hcell 6 (by omega)
    have f6 := hD.free (by rw [HLL.out, ← HL.out]) (k * 7 + 6)
    simp at x0 x1 x2 x3 x4 x5 x6
    have hBX := hid ((Below.refl wr.heap.size wr).alloc (Nat.le_refl _) (.cells #[.int .i64 t, .int .u8 b1, .int .u32 b2, .int .u8 b3, .string b4, .string b5, .slice xa kids.len xc] 134))
    have cx := hid (IH.out kids (.slice xa kids.len xc) (wr.alloc (.cells #[.int .i64 t, .int .u8 b1, .int .u32 b2, .int .u8 b3, .string b4, .string b5, .slice xa kids.len xc] 134)) (by have := hS.out; omega) (by have := hS.out; omega) (hvk.mono (hb.trans (hBX.out.mono hb.size))))
    have hgl := (hD.lt g rfl)
    have HG := hid hgl
    clear hcell hvk hsz hb hD hak hkl hgl
    go_wp2_with fail
    refine cx.out.mono ?_
    rintro e w2 ⟨v2, rfl, hv2, hb2⟩
    obtain ⟨ya, yc, rfl⟩ := hv2.shape'
    have HV2 := hid hv2
    have HB2 := hid (hBX.out.trans (hb2.mono hBX.out.size))
    have hD2 := hid ((HBD.out g rfl).on (grown_of_below HB2.out) (.inr (by simp [Value.ownBlock])) (R' := fun i => XcE w w2 g (decide (i < k))) (fun i a c h => h.on (cells_g_below HB2.out)))
    have f6b := hD2.out.free (by rw [HLL.out, ← HL.out]) (k * 7 + 6)
    have x6b := cell_on x6 HB2.out
    clear hv2 hb2 cx
    go_wp2_with fail
    have hD3 := hid (hR2.out w2 (.slice ya kids.len yc) hD2.out (HV2.out.sub (cells_move fun a u hp hc => by
     simp at hp
     have := HG.out
     refine ⟨by simp; omega, ?_⟩
     rw [setCell_other _ _ _ _ _ (by omega)]
     exact hc)))
    exact ⟨⟨k + 1, by go_num, by omega, fun g' hg' => by cases hg'; exact hD3.out, (HB.out.trans (HB2.out.mono HB.out.size)).setCell (by have := HG.out; simpa using this.1) _⟩, by simp only [intOf]; omega⟩
   ·have hk2 : k = len := by omega
    subst k
    go_wp2_with fail
    go_ret
    refine ⟨.slice va len vc, rfl, ?_, HB.out⟩
    refine copied_done (fun g hg => ?_) (fun hn => ?_) ⟨va, vc, by rw [HL.out], by rw [← HL.out]; exact hva⟩
    ·obtain ⟨cs, d1, d2, d3⟩ := HBD.out g hg
     refine ⟨cs, d1, fun i h h' => ⟨(d2 i h h').1, ?_⟩, d3⟩
     have hi : i < len := by have := HLL.out; have := HL.out; omega
     have hd : decide (i < len) = true := by simpa using hi
     have h2 : XcE w wr g (decide (i < len)) l.toL[i] cs[i] := (d2 i h h').2
     rw [hd] at h2
     exact h2
    ·rw [← HL.out]
     rcases hva with h0 | ⟨g, rfl⟩
     ·exact h0
     ·simp [Value.ownBlock] at hn
end
end Go.Proofs.YtlabadkfkbenoaaGreatDoor
