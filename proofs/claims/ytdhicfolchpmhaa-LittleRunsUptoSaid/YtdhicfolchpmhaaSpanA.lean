/- Walks: end, Within, Lap, of the program and of the document, for every two spans. -/
import Derived.Test.YtdhicfolchpmhaaLiesA
import Derived.OwnWalk
import Derived.Test.YtdhicfolchpmhaaLiesB
namespace Go.Proofs.Ytdhicfolchpmhaa
open Go.RowKit
set_option linter.unusedVariables false
set_option linter.unusedSimpArgs false

def lapB (a l b m : Int) : Bool := decide (0 < l) && decide (0 < m) && decide (a < b + m) && decide (b < a + l)

set_option maxHeartbeats 1000000 in
theorem end81 (a l : Int) (w : World) (ha : 0 ≤ a ∧ a ≤ 4294967295) (hl : 0 ≤ l ∧ l ≤ 4294967295) :
    Calls Try.prog 81 #[.agg #[.int .u32 a, .int .u32 l]] w fun e w' => e = .returned (.int .u64 (a + l)) ∧ w.grownBy w' none := by
  go_enter Try.func81, Try.ntmps81
  go_wp2_with fail
  go_ret
  exact ⟨rfl, World.grownBy_alloc _ _ _⟩
set_option maxHeartbeats 1000000 in
theorem within39 (a l n : Int) (w : World) (ha : 0 ≤ a ∧ a ≤ 4294967295) (hl : 0 ≤ l ∧ l ≤ 4294967295) (hn : 0 ≤ n ∧ n ≤ 4294967295) :
    Calls Try.prog 39 #[.agg #[.int .u32 a, .int .u32 l], .int .u32 n] w fun e w' => e = .returned (.bool (decide (a + l ≤ n))) ∧ w.grownBy w' none := by
  go_enter Try.func39, Try.ntmps39
  go_wp2_with (go_at_call 81; go_must (refine (end81 a l _ ha hl).mono ?_); rintro e w2 ⟨rfl, hg2⟩)
  go_ret
  exact ⟨rfl, grown_trans (World.grownBy_alloc _ _ _) hg2⟩

theorem endS77 (a l b m : Int) (W w : World) (p q : Nat) (h : W.grownBy w none ∧ w.cell? ⟨p, 0, none⟩ = some (.int .u32 a) ∧ w.cell? ⟨p, 1, none⟩ = some (.int .u32 l) ∧ w.cell? ⟨q, 0, none⟩ = some (.int .u32 b) ∧ w.cell? ⟨q, 1, none⟩ = some (.int .u32 m)) (x y : Int) (hx : 0 ≤ x ∧ x ≤ 4294967295) (hy : 0 ≤ y ∧ y ≤ 4294967295) :
    Calls Try.prog 77 #[.agg #[.int .u32 x, .int .u32 y]] w fun e w' => e = .returned (.int .u64 (x + y)) ∧ W.grownBy w' none ∧ w'.cell? ⟨p, 0, none⟩ = some (.int .u32 a) ∧ w'.cell? ⟨p, 1, none⟩ = some (.int .u32 l) ∧ w'.cell? ⟨q, 0, none⟩ = some (.int .u32 b) ∧ w'.cell? ⟨q, 1, none⟩ = some (.int .u32 m) :=
  (end77 x y w hx hy).mono fun e w' ⟨h1, h2⟩ => ⟨h1, grown_trans h.1 h2, h2.cell h.2.1 (by simp), h2.cell h.2.2.1 (by simp), h2.cell h.2.2.2.1 (by simp), h2.cell h.2.2.2.2 (by simp)⟩

set_option maxHeartbeats 2000000 in
theorem lap40_f (a l b m : Int) (w : World) (ha : 0 ≤ a ∧ a ≤ 4294967295) (hl : 0 ≤ l ∧ l ≤ 4294967295) (hb : 0 ≤ b ∧ b ≤ 4294967295) (hm : 0 ≤ m ∧ m ≤ 4294967295) (h1 : 0 < l) (h2 : 0 < m) (h3 : ¬ a < b + m) :
    Calls Try.prog 40 #[.agg #[.int .u32 a, .int .u32 l], .agg #[.int .u32 b, .int .u32 m]] w fun e w' => e = .returned (.bool false) ∧ w.grownBy w' none := by
  have hwa : IntKind.u64.wrap a = a := by rw [IntKind.wrap_u64]; omega
  have hwb : IntKind.u64.wrap b = b := by rw [IntKind.wrap_u64]; omega
  have hG := hid (show w.grownBy ((w.alloc (.cells #[.int .u32 a, .int .u32 l] 59)).alloc (.cells #[.int .u32 b, .int .u32 m] 59)).drew none from grown_trans (grown_trans (World.grownBy_alloc _ _ _) (World.grownBy_alloc _ _ _)) (grownBy_drew' _ none))
  have h3' : (a < b + m) = False := eq_false h3
  have h1' : (0 < l) = True := eq_true h1
  have h2' : (0 < m) = True := eq_true h2
  clear h1 h2 h3
  go_enter Try.func40, Try.ntmps40
  go_wp2_with fail
  refine wp_region_held_drew (S := (fun w' => w.grownBy w' none ∧ w'.cell? ⟨w.heap.size, 0, none⟩ = some (.int .u32 a) ∧ w'.cell? ⟨w.heap.size, 1, none⟩ = some (.int .u32 l) ∧ w'.cell? ⟨w.heap.size + 1, 0, none⟩ = some (.int .u32 b) ∧ w'.cell? ⟨w.heap.size + 1, 1, none⟩ = some (.int .u32 m))) (by kernel_rfl) ⟨hG.out, by simp, by simp, by simp, by simp⟩ (fun hHeld => ?_)
  refine wpAnyH_take (i := 0) (v := ?_) (by simp only [List.getElem?_toArray, List.getElem?_cons_succ, List.getElem?_cons_zero]; rfl) (by kernel_rfl) (by kernel_rfl) (by kernel_rfl) (by intro _ _ _ h; exact h) (Or.inl ⟨by rfl, ?_⟩) (by assumption) ?_
  rotate_left
  · intro w' hSw; (try dsimp only at hSw); go_simp; (try with_reducible rfl)
  try simp only [Act.put, List.setIfInBounds_toArray, List.set_cons_zero, List.set_cons_succ]
  refine wpAnyH_take (i := 1) (v := ?_) (by simp only [List.getElem?_toArray, List.getElem?_cons_succ, List.getElem?_cons_zero]; rfl) (by kernel_rfl) (by kernel_rfl) (by kernel_rfl) (by intro _ _ _ h; exact h) (Or.inl ⟨by rfl, ?_⟩) (by assumption) ?_
  rotate_left
  · intro w' hSw; (try dsimp only at hSw); go_simp; (try with_reducible rfl)
  try simp only [Act.put, List.setIfInBounds_toArray, List.set_cons_zero, List.set_cons_succ]
  refine wpAnyH_take (i := 2) (v := ?_) (by simp only [List.getElem?_toArray, List.getElem?_cons_succ, List.getElem?_cons_zero]; rfl) (by kernel_rfl) (by kernel_rfl) (by kernel_rfl) (by intro _ _ _ h; exact h) (Or.inl ⟨by rfl, ?_⟩) (by assumption) ?_
  rotate_left
  · intro w' hSw; (try dsimp only at hSw); go_simp; (try with_reducible rfl)
  try simp only [Act.put, List.setIfInBounds_toArray, List.set_cons_zero, List.set_cons_succ]
  refine wpAnyH_take (i := 3) (v := ?_) (by simp only [List.getElem?_toArray, List.getElem?_cons_succ, List.getElem?_cons_zero]; rfl) (by kernel_rfl) (by kernel_rfl) (by kernel_rfl) (by intro _ _ _ h; exact h) (Or.inl ⟨by rfl, ?_⟩) (by assumption) ?_
  rotate_left
  · intro w' hSw; (try dsimp only at hSw); go_simp; (try with_reducible rfl)
  try simp only [Act.put, List.setIfInBounds_toArray, List.set_cons_zero, List.set_cons_succ]
  refine wpAnyH_take (i := 4) (v := ?_) (by simp only [List.getElem?_toArray, List.getElem?_cons_succ, List.getElem?_cons_zero]; rfl) (by kernel_rfl) (by kernel_rfl) (by kernel_rfl) (by intro _ _ _ h; exact h) (Or.inl ⟨by rfl, ?_⟩) (by assumption) ?_
  rotate_left
  · intro w' hSw; (try dsimp only at hSw); go_simp; (try with_reducible rfl)
  try simp only [Act.put, List.setIfInBounds_toArray, List.set_cons_zero, List.set_cons_succ]
  refine wpAnyH_take (i := 5) (v := ?_) (by simp only [List.getElem?_toArray, List.getElem?_cons_succ, List.getElem?_cons_zero]; rfl) (by kernel_rfl) (by kernel_rfl) (by kernel_rfl) (by intro _ _ _ h; exact h) (Or.inl ⟨by rfl, ?_⟩) (by assumption) ?_
  rotate_left
  · intro w' hSw; (try dsimp only at hSw); go_simp; (try with_reducible rfl)
  try simp only [Act.put, List.setIfInBounds_toArray, List.set_cons_zero, List.set_cons_succ]
  refine wpAnyH_take (i := 6) (v := ?_) (by simp only [List.getElem?_toArray, List.getElem?_cons_succ, List.getElem?_cons_zero]; rfl) (by kernel_rfl) (by kernel_rfl) (by kernel_rfl) (by intro _ _ _ h; exact h) (Or.inl ⟨by rfl, ?_⟩) (by assumption) ?_
  rotate_left
  · intro w' hSw; (try dsimp only at hSw); go_simp; (try with_reducible rfl)
  try simp only [Act.put, List.setIfInBounds_toArray, List.set_cons_zero, List.set_cons_succ]
  refine wpAnyH_take (i := 7) (v := ?_) (by simp only [List.getElem?_toArray, List.getElem?_cons_succ, List.getElem?_cons_zero]; rfl) (by kernel_rfl) (by kernel_rfl) (by kernel_rfl) (by intro _ _ _ h; exact h) (Or.inl ⟨by rfl, ?_⟩) (by assumption) ?_
  rotate_left
  · intro w' hSw; (try dsimp only at hSw); go_simp; (try with_reducible rfl)
  try simp only [Act.put, List.setIfInBounds_toArray, List.set_cons_zero, List.set_cons_succ]
  refine wpAnyH_take (i := 8) (v := ?_) (by simp only [List.getElem?_toArray, List.getElem?_cons_succ, List.getElem?_cons_zero]; rfl) (by kernel_rfl) (by kernel_rfl) (by kernel_rfl) (by intro _ _ _ h; exact h) (Or.inl ⟨by rfl, ?_⟩) (by assumption) ?_
  rotate_left
  · intro w' hSw; (try dsimp only at hSw); go_simp; (try with_reducible rfl)
  try simp only [Act.put, List.setIfInBounds_toArray, List.set_cons_zero, List.set_cons_succ]
  refine wpAnyH_take (i := 9) (v := ?_) (by simp only [List.getElem?_toArray, List.getElem?_cons_succ, List.getElem?_cons_zero]; rfl) (by kernel_rfl) (by kernel_rfl) (by kernel_rfl) (by intro _ _ _ h; exact h) (Or.inl ⟨by rfl, ?_⟩) (by assumption) ?_
  rotate_left
  · intro w' hSw; (try dsimp only at hSw); go_simp; (try with_reducible rfl)
  try simp only [Act.put, List.setIfInBounds_toArray, List.set_cons_zero, List.set_cons_succ]
  refine wpAnyH_take (i := 10) (v := ?_) (by simp only [List.getElem?_toArray, List.getElem?_cons_succ, List.getElem?_cons_zero]; rfl) (by kernel_rfl) (by kernel_rfl) (by kernel_rfl) (by intro _ _ _ h; exact h) (Or.inl ⟨by rfl, ?_⟩) (by assumption) ?_
  rotate_left
  · intro w' hSw; (try dsimp only at hSw); go_simp; (try with_reducible rfl)
  try simp only [Act.put, List.setIfInBounds_toArray, List.set_cons_zero, List.set_cons_succ]
  refine wpAnyH_take (i := 11) (v := ?_) (by simp only [List.getElem?_toArray, List.getElem?_cons_succ, List.getElem?_cons_zero]; rfl) (by kernel_rfl) (by kernel_rfl) (by kernel_rfl) (by intro _ _ _ h; exact h) (Or.inl ⟨by rfl, ?_⟩) (by assumption) ?_
  rotate_left
  · intro w' hSw; (try dsimp only at hSw); go_simp; (try with_reducible rfl)
  try simp only [Act.put, List.setIfInBounds_toArray, List.set_cons_zero, List.set_cons_succ]
  refine wpAnyH_take (i := 12) (v := ?_) (by simp only [List.getElem?_toArray, List.getElem?_cons_succ, List.getElem?_cons_zero]; rfl) (by kernel_rfl) (by kernel_rfl) (by kernel_rfl) (by intro _ _ _ h; exact h) (Or.inl ⟨by rfl, ?_⟩) (by assumption) ?_
  rotate_left
  · intro w' hSw; (try dsimp only at hSw); go_simp; (try with_reducible rfl)
  try simp only [Act.put, List.setIfInBounds_toArray, List.set_cons_zero, List.set_cons_succ]
  refine wpAnyH_ready (rs := [13]) (by kernel_rfl) (by simp) ?_
  refine AllReadyH.cons (by simp only [List.getElem?_toArray, List.getElem?_cons_succ, List.getElem?_cons_zero]; rfl) (fun K hK => ?_) AllReadyH.nil
  go_simp
  go_at_call 77
  refine (endS77 a l b m w _ w.heap.size (w.heap.size + 1) hHeld b m hb hm).mono ?_
  rintro e w2 ⟨rfl, hk⟩
  clear hHeld
  go_wp2_with fail
  refine hK.out _ _ hk (fun hHeld => ?_)
  clear hK K hk
  try simp only [Act.put, List.setIfInBounds_toArray, List.set_cons_zero, List.set_cons_succ]
  refine wpAnyH_take (i := 14) (v := ?_) (by simp only [List.getElem?_toArray, List.getElem?_cons_succ, List.getElem?_cons_zero]; rfl) (by kernel_rfl) (by kernel_rfl) (by kernel_rfl) (by intro _ _ _ h; exact h) (Or.inl ⟨by rfl, ?_⟩) (by assumption) ?_
  rotate_left
  · intro w' hSw; (try dsimp only at hSw); go_simp; (try with_reducible rfl)
  try simp only [Act.put, List.setIfInBounds_toArray, List.set_cons_zero, List.set_cons_succ]
  refine wpAnyH_take (i := 15) (v := ?_) (by simp only [List.getElem?_toArray, List.getElem?_cons_succ, List.getElem?_cons_zero]; rfl) (by kernel_rfl) (by kernel_rfl) (by kernel_rfl) (by intro _ _ _ h; exact h) (Or.inl ⟨by rfl, ?_⟩) (by assumption) ?_
  rotate_left
  · intro w' hSw; (try dsimp only at hSw); go_simp; (try with_reducible rfl)
  try simp only [Act.put, List.setIfInBounds_toArray, List.set_cons_zero, List.set_cons_succ]
  refine wpAnyH_take (i := 16) (v := ?_) (by simp only [List.getElem?_toArray, List.getElem?_cons_succ, List.getElem?_cons_zero]; rfl) (by kernel_rfl) (by kernel_rfl) (by kernel_rfl) (by intro _ _ _ h; exact h) (Or.inl ⟨by rfl, ?_⟩) (by assumption) ?_
  rotate_left
  · intro w' hSw; (try dsimp only at hSw); go_simp; (try with_reducible rfl)
  try simp only [Act.put, List.setIfInBounds_toArray, List.set_cons_zero, List.set_cons_succ]
  refine wpAnyH_take (i := 17) (v := undef) (by simp only [List.getElem?_toArray, List.getElem?_cons_succ, List.getElem?_cons_zero]; rfl) (by kernel_rfl) (by kernel_rfl) (by kernel_rfl) (by intro _ _ _ h; exact h) (Or.inr ⟨by rfl, rfl⟩) (by assumption) ?_
  try simp only [Act.put, List.setIfInBounds_toArray, List.set_cons_zero, List.set_cons_succ]
  refine wpAnyH_take (i := 18) (v := undef) (by simp only [List.getElem?_toArray, List.getElem?_cons_succ, List.getElem?_cons_zero]; rfl) (by kernel_rfl) (by kernel_rfl) (by kernel_rfl) (by intro _ _ _ h; exact h) (Or.inr ⟨by rfl, rfl⟩) (by assumption) ?_
  try simp only [Act.put, List.setIfInBounds_toArray, List.set_cons_zero, List.set_cons_succ]
  refine wpAnyH_take (i := 19) (v := undef) (by simp only [List.getElem?_toArray, List.getElem?_cons_succ, List.getElem?_cons_zero]; rfl) (by kernel_rfl) (by kernel_rfl) (by kernel_rfl) (by intro _ _ _ h; exact h) (Or.inr ⟨by rfl, rfl⟩) (by assumption) ?_
  try simp only [Act.put, List.setIfInBounds_toArray, List.set_cons_zero, List.set_cons_succ]
  refine wpAnyH_take (i := 20) (v := undef) (by simp only [List.getElem?_toArray, List.getElem?_cons_succ, List.getElem?_cons_zero]; rfl) (by kernel_rfl) (by kernel_rfl) (by kernel_rfl) (by intro _ _ _ h; exact h) (Or.inr ⟨by rfl, rfl⟩) (by assumption) ?_
  try simp only [Act.put, List.setIfInBounds_toArray, List.set_cons_zero, List.set_cons_succ]
  refine wpAnyH_take (i := 21) (v := undef) (by simp only [List.getElem?_toArray, List.getElem?_cons_succ, List.getElem?_cons_zero]; rfl) (by kernel_rfl) (by kernel_rfl) (by kernel_rfl) (by intro _ _ _ h; exact h) (Or.inr ⟨by rfl, rfl⟩) (by assumption) ?_
  try simp only [Act.put, List.setIfInBounds_toArray, List.set_cons_zero, List.set_cons_succ]
  refine wpAnyH_take (i := 22) (v := undef) (by simp only [List.getElem?_toArray, List.getElem?_cons_succ, List.getElem?_cons_zero]; rfl) (by kernel_rfl) (by kernel_rfl) (by kernel_rfl) (by intro _ _ _ h; exact h) (Or.inr ⟨by rfl, rfl⟩) (by assumption) ?_
  try simp only [Act.put, List.setIfInBounds_toArray, List.set_cons_zero, List.set_cons_succ]
  refine wpAnyH_take (i := 23) (v := ?_) (by simp only [List.getElem?_toArray, List.getElem?_cons_succ, List.getElem?_cons_zero]; rfl) (by kernel_rfl) (by kernel_rfl) (by kernel_rfl) (by intro _ _ _ h; exact h) (Or.inl ⟨by rfl, ?_⟩) (by assumption) ?_
  rotate_left
  · intro w' hSw; (try dsimp only at hSw); go_simp; (try with_reducible rfl)
  try simp only [Act.put, List.setIfInBounds_toArray, List.set_cons_zero, List.set_cons_succ]
  refine wpAnyH_take (i := 24) (v := ?_) (by simp only [List.getElem?_toArray, List.getElem?_cons_succ, List.getElem?_cons_zero]; rfl) (by kernel_rfl) (by kernel_rfl) (by kernel_rfl) (by intro _ _ _ h; exact h) (Or.inl ⟨by rfl, ?_⟩) (by assumption) ?_
  rotate_left
  · intro w' hSw; (try dsimp only at hSw); go_simp; (try with_reducible rfl)
  try simp only [Act.put, List.setIfInBounds_toArray, List.set_cons_zero, List.set_cons_succ]
  refine wpAnyH_done (by kernel_rfl) ?_ _
  have hg := hHeld.1
  clear hHeld
  go_wp2_with fail
  go_ret
  exact ⟨rfl, hg⟩
set_option maxHeartbeats 2000000 in
theorem lap40_g (a l b m : Int) (w : World) (ha : 0 ≤ a ∧ a ≤ 4294967295) (hl : 0 ≤ l ∧ l ≤ 4294967295) (hb : 0 ≤ b ∧ b ≤ 4294967295) (hm : 0 ≤ m ∧ m ≤ 4294967295) (h1 : 0 < l) (h2 : 0 < m) (h3 : a < b + m) (h4 : b < a + l) :
    Calls Try.prog 40 #[.agg #[.int .u32 a, .int .u32 l], .agg #[.int .u32 b, .int .u32 m]] w fun e w' => e = .returned (.bool true) ∧ w.grownBy w' none := by
  have hwa : IntKind.u64.wrap a = a := by rw [IntKind.wrap_u64]; omega
  have hwb : IntKind.u64.wrap b = b := by rw [IntKind.wrap_u64]; omega
  have hG := hid (show w.grownBy ((w.alloc (.cells #[.int .u32 a, .int .u32 l] 59)).alloc (.cells #[.int .u32 b, .int .u32 m] 59)).drew none from grown_trans (grown_trans (World.grownBy_alloc _ _ _) (World.grownBy_alloc _ _ _)) (grownBy_drew' _ none))
  have h3' : (a < b + m) = True := eq_true h3
  have h4' : (b < a + l) = True := eq_true h4
  have h1' : (0 < l) = True := eq_true h1
  have h2' : (0 < m) = True := eq_true h2
  clear h1 h2 h3 h4
  go_enter Try.func40, Try.ntmps40
  go_wp2_with fail
  refine wp_region_held_drew (S := (fun w' => w.grownBy w' none ∧ w'.cell? ⟨w.heap.size, 0, none⟩ = some (.int .u32 a) ∧ w'.cell? ⟨w.heap.size, 1, none⟩ = some (.int .u32 l) ∧ w'.cell? ⟨w.heap.size + 1, 0, none⟩ = some (.int .u32 b) ∧ w'.cell? ⟨w.heap.size + 1, 1, none⟩ = some (.int .u32 m))) (by kernel_rfl) ⟨hG.out, by simp, by simp, by simp, by simp⟩ (fun hHeld => ?_)
  refine wpAnyH_take (i := 0) (v := ?_) (by simp only [List.getElem?_toArray, List.getElem?_cons_succ, List.getElem?_cons_zero]; rfl) (by kernel_rfl) (by kernel_rfl) (by kernel_rfl) (by intro _ _ _ h; exact h) (Or.inl ⟨by rfl, ?_⟩) (by assumption) ?_
  rotate_left
  · intro w' hSw; (try dsimp only at hSw); go_simp; (try with_reducible rfl)
  try simp only [Act.put, List.setIfInBounds_toArray, List.set_cons_zero, List.set_cons_succ]
  refine wpAnyH_take (i := 1) (v := ?_) (by simp only [List.getElem?_toArray, List.getElem?_cons_succ, List.getElem?_cons_zero]; rfl) (by kernel_rfl) (by kernel_rfl) (by kernel_rfl) (by intro _ _ _ h; exact h) (Or.inl ⟨by rfl, ?_⟩) (by assumption) ?_
  rotate_left
  · intro w' hSw; (try dsimp only at hSw); go_simp; (try with_reducible rfl)
  try simp only [Act.put, List.setIfInBounds_toArray, List.set_cons_zero, List.set_cons_succ]
  refine wpAnyH_take (i := 2) (v := ?_) (by simp only [List.getElem?_toArray, List.getElem?_cons_succ, List.getElem?_cons_zero]; rfl) (by kernel_rfl) (by kernel_rfl) (by kernel_rfl) (by intro _ _ _ h; exact h) (Or.inl ⟨by rfl, ?_⟩) (by assumption) ?_
  rotate_left
  · intro w' hSw; (try dsimp only at hSw); go_simp; (try with_reducible rfl)
  try simp only [Act.put, List.setIfInBounds_toArray, List.set_cons_zero, List.set_cons_succ]
  refine wpAnyH_take (i := 3) (v := ?_) (by simp only [List.getElem?_toArray, List.getElem?_cons_succ, List.getElem?_cons_zero]; rfl) (by kernel_rfl) (by kernel_rfl) (by kernel_rfl) (by intro _ _ _ h; exact h) (Or.inl ⟨by rfl, ?_⟩) (by assumption) ?_
  rotate_left
  · intro w' hSw; (try dsimp only at hSw); go_simp; (try with_reducible rfl)
  try simp only [Act.put, List.setIfInBounds_toArray, List.set_cons_zero, List.set_cons_succ]
  refine wpAnyH_take (i := 4) (v := ?_) (by simp only [List.getElem?_toArray, List.getElem?_cons_succ, List.getElem?_cons_zero]; rfl) (by kernel_rfl) (by kernel_rfl) (by kernel_rfl) (by intro _ _ _ h; exact h) (Or.inl ⟨by rfl, ?_⟩) (by assumption) ?_
  rotate_left
  · intro w' hSw; (try dsimp only at hSw); go_simp; (try with_reducible rfl)
  try simp only [Act.put, List.setIfInBounds_toArray, List.set_cons_zero, List.set_cons_succ]
  refine wpAnyH_take (i := 5) (v := ?_) (by simp only [List.getElem?_toArray, List.getElem?_cons_succ, List.getElem?_cons_zero]; rfl) (by kernel_rfl) (by kernel_rfl) (by kernel_rfl) (by intro _ _ _ h; exact h) (Or.inl ⟨by rfl, ?_⟩) (by assumption) ?_
  rotate_left
  · intro w' hSw; (try dsimp only at hSw); go_simp; (try with_reducible rfl)
  try simp only [Act.put, List.setIfInBounds_toArray, List.set_cons_zero, List.set_cons_succ]
  refine wpAnyH_take (i := 6) (v := ?_) (by simp only [List.getElem?_toArray, List.getElem?_cons_succ, List.getElem?_cons_zero]; rfl) (by kernel_rfl) (by kernel_rfl) (by kernel_rfl) (by intro _ _ _ h; exact h) (Or.inl ⟨by rfl, ?_⟩) (by assumption) ?_
  rotate_left
  · intro w' hSw; (try dsimp only at hSw); go_simp; (try with_reducible rfl)
  try simp only [Act.put, List.setIfInBounds_toArray, List.set_cons_zero, List.set_cons_succ]
  refine wpAnyH_take (i := 7) (v := ?_) (by simp only [List.getElem?_toArray, List.getElem?_cons_succ, List.getElem?_cons_zero]; rfl) (by kernel_rfl) (by kernel_rfl) (by kernel_rfl) (by intro _ _ _ h; exact h) (Or.inl ⟨by rfl, ?_⟩) (by assumption) ?_
  rotate_left
  · intro w' hSw; (try dsimp only at hSw); go_simp; (try with_reducible rfl)
  try simp only [Act.put, List.setIfInBounds_toArray, List.set_cons_zero, List.set_cons_succ]
  refine wpAnyH_take (i := 8) (v := ?_) (by simp only [List.getElem?_toArray, List.getElem?_cons_succ, List.getElem?_cons_zero]; rfl) (by kernel_rfl) (by kernel_rfl) (by kernel_rfl) (by intro _ _ _ h; exact h) (Or.inl ⟨by rfl, ?_⟩) (by assumption) ?_
  rotate_left
  · intro w' hSw; (try dsimp only at hSw); go_simp; (try with_reducible rfl)
  try simp only [Act.put, List.setIfInBounds_toArray, List.set_cons_zero, List.set_cons_succ]
  refine wpAnyH_take (i := 9) (v := ?_) (by simp only [List.getElem?_toArray, List.getElem?_cons_succ, List.getElem?_cons_zero]; rfl) (by kernel_rfl) (by kernel_rfl) (by kernel_rfl) (by intro _ _ _ h; exact h) (Or.inl ⟨by rfl, ?_⟩) (by assumption) ?_
  rotate_left
  · intro w' hSw; (try dsimp only at hSw); go_simp; (try with_reducible rfl)
  try simp only [Act.put, List.setIfInBounds_toArray, List.set_cons_zero, List.set_cons_succ]
  refine wpAnyH_take (i := 10) (v := ?_) (by simp only [List.getElem?_toArray, List.getElem?_cons_succ, List.getElem?_cons_zero]; rfl) (by kernel_rfl) (by kernel_rfl) (by kernel_rfl) (by intro _ _ _ h; exact h) (Or.inl ⟨by rfl, ?_⟩) (by assumption) ?_
  rotate_left
  · intro w' hSw; (try dsimp only at hSw); go_simp; (try with_reducible rfl)
  try simp only [Act.put, List.setIfInBounds_toArray, List.set_cons_zero, List.set_cons_succ]
  refine wpAnyH_take (i := 11) (v := ?_) (by simp only [List.getElem?_toArray, List.getElem?_cons_succ, List.getElem?_cons_zero]; rfl) (by kernel_rfl) (by kernel_rfl) (by kernel_rfl) (by intro _ _ _ h; exact h) (Or.inl ⟨by rfl, ?_⟩) (by assumption) ?_
  rotate_left
  · intro w' hSw; (try dsimp only at hSw); go_simp; (try with_reducible rfl)
  try simp only [Act.put, List.setIfInBounds_toArray, List.set_cons_zero, List.set_cons_succ]
  refine wpAnyH_take (i := 12) (v := ?_) (by simp only [List.getElem?_toArray, List.getElem?_cons_succ, List.getElem?_cons_zero]; rfl) (by kernel_rfl) (by kernel_rfl) (by kernel_rfl) (by intro _ _ _ h; exact h) (Or.inl ⟨by rfl, ?_⟩) (by assumption) ?_
  rotate_left
  · intro w' hSw; (try dsimp only at hSw); go_simp; (try with_reducible rfl)
  try simp only [Act.put, List.setIfInBounds_toArray, List.set_cons_zero, List.set_cons_succ]
  refine wpAnyH_ready (rs := [13]) (by kernel_rfl) (by simp) ?_
  refine AllReadyH.cons (by simp only [List.getElem?_toArray, List.getElem?_cons_succ, List.getElem?_cons_zero]; rfl) (fun K hK => ?_) AllReadyH.nil
  go_simp
  go_at_call 77
  refine (endS77 a l b m w _ w.heap.size (w.heap.size + 1) hHeld b m hb hm).mono ?_
  rintro e w2 ⟨rfl, hk⟩
  clear hHeld
  go_wp2_with fail
  refine hK.out _ _ hk (fun hHeld => ?_)
  clear hK K hk
  try simp only [Act.put, List.setIfInBounds_toArray, List.set_cons_zero, List.set_cons_succ]
  refine wpAnyH_take (i := 14) (v := ?_) (by simp only [List.getElem?_toArray, List.getElem?_cons_succ, List.getElem?_cons_zero]; rfl) (by kernel_rfl) (by kernel_rfl) (by kernel_rfl) (by intro _ _ _ h; exact h) (Or.inl ⟨by rfl, ?_⟩) (by assumption) ?_
  rotate_left
  · intro w' hSw; (try dsimp only at hSw); go_simp; (try with_reducible rfl)
  try simp only [Act.put, List.setIfInBounds_toArray, List.set_cons_zero, List.set_cons_succ]
  refine wpAnyH_take (i := 15) (v := ?_) (by simp only [List.getElem?_toArray, List.getElem?_cons_succ, List.getElem?_cons_zero]; rfl) (by kernel_rfl) (by kernel_rfl) (by kernel_rfl) (by intro _ _ _ h; exact h) (Or.inl ⟨by rfl, ?_⟩) (by assumption) ?_
  rotate_left
  · intro w' hSw; (try dsimp only at hSw); go_simp; (try with_reducible rfl)
  try simp only [Act.put, List.setIfInBounds_toArray, List.set_cons_zero, List.set_cons_succ]
  refine wpAnyH_take (i := 16) (v := ?_) (by simp only [List.getElem?_toArray, List.getElem?_cons_succ, List.getElem?_cons_zero]; rfl) (by kernel_rfl) (by kernel_rfl) (by kernel_rfl) (by intro _ _ _ h; exact h) (Or.inl ⟨by rfl, ?_⟩) (by assumption) ?_
  rotate_left
  · intro w' hSw; (try dsimp only at hSw); go_simp; (try with_reducible rfl)
  try simp only [Act.put, List.setIfInBounds_toArray, List.set_cons_zero, List.set_cons_succ]
  refine wpAnyH_take (i := 17) (v := ?_) (by simp only [List.getElem?_toArray, List.getElem?_cons_succ, List.getElem?_cons_zero]; rfl) (by kernel_rfl) (by kernel_rfl) (by kernel_rfl) (by intro _ _ _ h; exact h) (Or.inl ⟨by rfl, ?_⟩) (by assumption) ?_
  rotate_left
  · intro w' hSw; (try dsimp only at hSw); go_simp; (try with_reducible rfl)
  try simp only [Act.put, List.setIfInBounds_toArray, List.set_cons_zero, List.set_cons_succ]
  refine wpAnyH_take (i := 18) (v := ?_) (by simp only [List.getElem?_toArray, List.getElem?_cons_succ, List.getElem?_cons_zero]; rfl) (by kernel_rfl) (by kernel_rfl) (by kernel_rfl) (by intro _ _ _ h; exact h) (Or.inl ⟨by rfl, ?_⟩) (by assumption) ?_
  rotate_left
  · intro w' hSw; (try dsimp only at hSw); go_simp; (try with_reducible rfl)
  try simp only [Act.put, List.setIfInBounds_toArray, List.set_cons_zero, List.set_cons_succ]
  refine wpAnyH_take (i := 19) (v := ?_) (by simp only [List.getElem?_toArray, List.getElem?_cons_succ, List.getElem?_cons_zero]; rfl) (by kernel_rfl) (by kernel_rfl) (by kernel_rfl) (by intro _ _ _ h; exact h) (Or.inl ⟨by rfl, ?_⟩) (by assumption) ?_
  rotate_left
  · intro w' hSw; (try dsimp only at hSw); go_simp; (try with_reducible rfl)
  try simp only [Act.put, List.setIfInBounds_toArray, List.set_cons_zero, List.set_cons_succ]
  refine wpAnyH_take (i := 20) (v := ?_) (by simp only [List.getElem?_toArray, List.getElem?_cons_succ, List.getElem?_cons_zero]; rfl) (by kernel_rfl) (by kernel_rfl) (by kernel_rfl) (by intro _ _ _ h; exact h) (Or.inl ⟨by rfl, ?_⟩) (by assumption) ?_
  rotate_left
  · intro w' hSw; (try dsimp only at hSw); go_simp; (try with_reducible rfl)
  try simp only [Act.put, List.setIfInBounds_toArray, List.set_cons_zero, List.set_cons_succ]
  refine wpAnyH_ready (rs := [21]) (by kernel_rfl) (by simp) ?_
  refine AllReadyH.cons (by simp only [List.getElem?_toArray, List.getElem?_cons_succ, List.getElem?_cons_zero]; rfl) (fun K hK => ?_) AllReadyH.nil
  go_simp
  go_at_call 77
  refine (endS77 a l b m w _ w.heap.size (w.heap.size + 1) hHeld a l ha hl).mono ?_
  rintro e w2 ⟨rfl, hk⟩
  clear hHeld
  go_wp2_with fail
  refine hK.out _ _ hk (fun hHeld => ?_)
  clear hK K hk
  try simp only [Act.put, List.setIfInBounds_toArray, List.set_cons_zero, List.set_cons_succ]
  refine wpAnyH_take (i := 22) (v := ?_) (by simp only [List.getElem?_toArray, List.getElem?_cons_succ, List.getElem?_cons_zero]; rfl) (by kernel_rfl) (by kernel_rfl) (by kernel_rfl) (by intro _ _ _ h; exact h) (Or.inl ⟨by rfl, ?_⟩) (by assumption) ?_
  rotate_left
  · intro w' hSw; (try dsimp only at hSw); go_simp; (try with_reducible rfl)
  try simp only [Act.put, List.setIfInBounds_toArray, List.set_cons_zero, List.set_cons_succ]
  refine wpAnyH_take (i := 23) (v := ?_) (by simp only [List.getElem?_toArray, List.getElem?_cons_succ, List.getElem?_cons_zero]; rfl) (by kernel_rfl) (by kernel_rfl) (by kernel_rfl) (by intro _ _ _ h; exact h) (Or.inl ⟨by rfl, ?_⟩) (by assumption) ?_
  rotate_left
  · intro w' hSw; (try dsimp only at hSw); go_simp; (try with_reducible rfl)
  try simp only [Act.put, List.setIfInBounds_toArray, List.set_cons_zero, List.set_cons_succ]
  refine wpAnyH_take (i := 24) (v := ?_) (by simp only [List.getElem?_toArray, List.getElem?_cons_succ, List.getElem?_cons_zero]; rfl) (by kernel_rfl) (by kernel_rfl) (by kernel_rfl) (by intro _ _ _ h; exact h) (Or.inl ⟨by rfl, ?_⟩) (by assumption) ?_
  rotate_left
  · intro w' hSw; (try dsimp only at hSw); go_simp; (try with_reducible rfl)
  try simp only [Act.put, List.setIfInBounds_toArray, List.set_cons_zero, List.set_cons_succ]
  refine wpAnyH_done (by kernel_rfl) ?_ _
  have hg := hHeld.1
  clear hHeld
  go_wp2_with fail
  go_ret
  exact ⟨rfl, hg⟩
set_option maxHeartbeats 2000000 in
theorem lap40_h (a l b m : Int) (w : World) (ha : 0 ≤ a ∧ a ≤ 4294967295) (hl : 0 ≤ l ∧ l ≤ 4294967295) (hb : 0 ≤ b ∧ b ≤ 4294967295) (hm : 0 ≤ m ∧ m ≤ 4294967295) (h1 : 0 < l) (h2 : 0 < m) (h3 : a < b + m) (h4 : ¬ b < a + l) :
    Calls Try.prog 40 #[.agg #[.int .u32 a, .int .u32 l], .agg #[.int .u32 b, .int .u32 m]] w fun e w' => e = .returned (.bool false) ∧ w.grownBy w' none := by
  have hwa : IntKind.u64.wrap a = a := by rw [IntKind.wrap_u64]; omega
  have hwb : IntKind.u64.wrap b = b := by rw [IntKind.wrap_u64]; omega
  have hG := hid (show w.grownBy ((w.alloc (.cells #[.int .u32 a, .int .u32 l] 59)).alloc (.cells #[.int .u32 b, .int .u32 m] 59)).drew none from grown_trans (grown_trans (World.grownBy_alloc _ _ _) (World.grownBy_alloc _ _ _)) (grownBy_drew' _ none))
  have h3' : (a < b + m) = True := eq_true h3
  have h4' : (b < a + l) = False := eq_false h4
  have h1' : (0 < l) = True := eq_true h1
  have h2' : (0 < m) = True := eq_true h2
  clear h1 h2 h3 h4
  go_enter Try.func40, Try.ntmps40
  go_wp2_with fail
  refine wp_region_held_drew (S := (fun w' => w.grownBy w' none ∧ w'.cell? ⟨w.heap.size, 0, none⟩ = some (.int .u32 a) ∧ w'.cell? ⟨w.heap.size, 1, none⟩ = some (.int .u32 l) ∧ w'.cell? ⟨w.heap.size + 1, 0, none⟩ = some (.int .u32 b) ∧ w'.cell? ⟨w.heap.size + 1, 1, none⟩ = some (.int .u32 m))) (by kernel_rfl) ⟨hG.out, by simp, by simp, by simp, by simp⟩ (fun hHeld => ?_)
  refine wpAnyH_take (i := 0) (v := ?_) (by simp only [List.getElem?_toArray, List.getElem?_cons_succ, List.getElem?_cons_zero]; rfl) (by kernel_rfl) (by kernel_rfl) (by kernel_rfl) (by intro _ _ _ h; exact h) (Or.inl ⟨by rfl, ?_⟩) (by assumption) ?_
  rotate_left
  · intro w' hSw; (try dsimp only at hSw); go_simp; (try with_reducible rfl)
  try simp only [Act.put, List.setIfInBounds_toArray, List.set_cons_zero, List.set_cons_succ]
  refine wpAnyH_take (i := 1) (v := ?_) (by simp only [List.getElem?_toArray, List.getElem?_cons_succ, List.getElem?_cons_zero]; rfl) (by kernel_rfl) (by kernel_rfl) (by kernel_rfl) (by intro _ _ _ h; exact h) (Or.inl ⟨by rfl, ?_⟩) (by assumption) ?_
  rotate_left
  · intro w' hSw; (try dsimp only at hSw); go_simp; (try with_reducible rfl)
  try simp only [Act.put, List.setIfInBounds_toArray, List.set_cons_zero, List.set_cons_succ]
  refine wpAnyH_take (i := 2) (v := ?_) (by simp only [List.getElem?_toArray, List.getElem?_cons_succ, List.getElem?_cons_zero]; rfl) (by kernel_rfl) (by kernel_rfl) (by kernel_rfl) (by intro _ _ _ h; exact h) (Or.inl ⟨by rfl, ?_⟩) (by assumption) ?_
  rotate_left
  · intro w' hSw; (try dsimp only at hSw); go_simp; (try with_reducible rfl)
  try simp only [Act.put, List.setIfInBounds_toArray, List.set_cons_zero, List.set_cons_succ]
  refine wpAnyH_take (i := 3) (v := ?_) (by simp only [List.getElem?_toArray, List.getElem?_cons_succ, List.getElem?_cons_zero]; rfl) (by kernel_rfl) (by kernel_rfl) (by kernel_rfl) (by intro _ _ _ h; exact h) (Or.inl ⟨by rfl, ?_⟩) (by assumption) ?_
  rotate_left
  · intro w' hSw; (try dsimp only at hSw); go_simp; (try with_reducible rfl)
  try simp only [Act.put, List.setIfInBounds_toArray, List.set_cons_zero, List.set_cons_succ]
  refine wpAnyH_take (i := 4) (v := ?_) (by simp only [List.getElem?_toArray, List.getElem?_cons_succ, List.getElem?_cons_zero]; rfl) (by kernel_rfl) (by kernel_rfl) (by kernel_rfl) (by intro _ _ _ h; exact h) (Or.inl ⟨by rfl, ?_⟩) (by assumption) ?_
  rotate_left
  · intro w' hSw; (try dsimp only at hSw); go_simp; (try with_reducible rfl)
  try simp only [Act.put, List.setIfInBounds_toArray, List.set_cons_zero, List.set_cons_succ]
  refine wpAnyH_take (i := 5) (v := ?_) (by simp only [List.getElem?_toArray, List.getElem?_cons_succ, List.getElem?_cons_zero]; rfl) (by kernel_rfl) (by kernel_rfl) (by kernel_rfl) (by intro _ _ _ h; exact h) (Or.inl ⟨by rfl, ?_⟩) (by assumption) ?_
  rotate_left
  · intro w' hSw; (try dsimp only at hSw); go_simp; (try with_reducible rfl)
  try simp only [Act.put, List.setIfInBounds_toArray, List.set_cons_zero, List.set_cons_succ]
  refine wpAnyH_take (i := 6) (v := ?_) (by simp only [List.getElem?_toArray, List.getElem?_cons_succ, List.getElem?_cons_zero]; rfl) (by kernel_rfl) (by kernel_rfl) (by kernel_rfl) (by intro _ _ _ h; exact h) (Or.inl ⟨by rfl, ?_⟩) (by assumption) ?_
  rotate_left
  · intro w' hSw; (try dsimp only at hSw); go_simp; (try with_reducible rfl)
  try simp only [Act.put, List.setIfInBounds_toArray, List.set_cons_zero, List.set_cons_succ]
  refine wpAnyH_take (i := 7) (v := ?_) (by simp only [List.getElem?_toArray, List.getElem?_cons_succ, List.getElem?_cons_zero]; rfl) (by kernel_rfl) (by kernel_rfl) (by kernel_rfl) (by intro _ _ _ h; exact h) (Or.inl ⟨by rfl, ?_⟩) (by assumption) ?_
  rotate_left
  · intro w' hSw; (try dsimp only at hSw); go_simp; (try with_reducible rfl)
  try simp only [Act.put, List.setIfInBounds_toArray, List.set_cons_zero, List.set_cons_succ]
  refine wpAnyH_take (i := 8) (v := ?_) (by simp only [List.getElem?_toArray, List.getElem?_cons_succ, List.getElem?_cons_zero]; rfl) (by kernel_rfl) (by kernel_rfl) (by kernel_rfl) (by intro _ _ _ h; exact h) (Or.inl ⟨by rfl, ?_⟩) (by assumption) ?_
  rotate_left
  · intro w' hSw; (try dsimp only at hSw); go_simp; (try with_reducible rfl)
  try simp only [Act.put, List.setIfInBounds_toArray, List.set_cons_zero, List.set_cons_succ]
  refine wpAnyH_take (i := 9) (v := ?_) (by simp only [List.getElem?_toArray, List.getElem?_cons_succ, List.getElem?_cons_zero]; rfl) (by kernel_rfl) (by kernel_rfl) (by kernel_rfl) (by intro _ _ _ h; exact h) (Or.inl ⟨by rfl, ?_⟩) (by assumption) ?_
  rotate_left
  · intro w' hSw; (try dsimp only at hSw); go_simp; (try with_reducible rfl)
  try simp only [Act.put, List.setIfInBounds_toArray, List.set_cons_zero, List.set_cons_succ]
  refine wpAnyH_take (i := 10) (v := ?_) (by simp only [List.getElem?_toArray, List.getElem?_cons_succ, List.getElem?_cons_zero]; rfl) (by kernel_rfl) (by kernel_rfl) (by kernel_rfl) (by intro _ _ _ h; exact h) (Or.inl ⟨by rfl, ?_⟩) (by assumption) ?_
  rotate_left
  · intro w' hSw; (try dsimp only at hSw); go_simp; (try with_reducible rfl)
  try simp only [Act.put, List.setIfInBounds_toArray, List.set_cons_zero, List.set_cons_succ]
  refine wpAnyH_take (i := 11) (v := ?_) (by simp only [List.getElem?_toArray, List.getElem?_cons_succ, List.getElem?_cons_zero]; rfl) (by kernel_rfl) (by kernel_rfl) (by kernel_rfl) (by intro _ _ _ h; exact h) (Or.inl ⟨by rfl, ?_⟩) (by assumption) ?_
  rotate_left
  · intro w' hSw; (try dsimp only at hSw); go_simp; (try with_reducible rfl)
  try simp only [Act.put, List.setIfInBounds_toArray, List.set_cons_zero, List.set_cons_succ]
  refine wpAnyH_take (i := 12) (v := ?_) (by simp only [List.getElem?_toArray, List.getElem?_cons_succ, List.getElem?_cons_zero]; rfl) (by kernel_rfl) (by kernel_rfl) (by kernel_rfl) (by intro _ _ _ h; exact h) (Or.inl ⟨by rfl, ?_⟩) (by assumption) ?_
  rotate_left
  · intro w' hSw; (try dsimp only at hSw); go_simp; (try with_reducible rfl)
  try simp only [Act.put, List.setIfInBounds_toArray, List.set_cons_zero, List.set_cons_succ]
  refine wpAnyH_ready (rs := [13]) (by kernel_rfl) (by simp) ?_
  refine AllReadyH.cons (by simp only [List.getElem?_toArray, List.getElem?_cons_succ, List.getElem?_cons_zero]; rfl) (fun K hK => ?_) AllReadyH.nil
  go_simp
  go_at_call 77
  refine (endS77 a l b m w _ w.heap.size (w.heap.size + 1) hHeld b m hb hm).mono ?_
  rintro e w2 ⟨rfl, hk⟩
  clear hHeld
  go_wp2_with fail
  refine hK.out _ _ hk (fun hHeld => ?_)
  clear hK K hk
  try simp only [Act.put, List.setIfInBounds_toArray, List.set_cons_zero, List.set_cons_succ]
  refine wpAnyH_take (i := 14) (v := ?_) (by simp only [List.getElem?_toArray, List.getElem?_cons_succ, List.getElem?_cons_zero]; rfl) (by kernel_rfl) (by kernel_rfl) (by kernel_rfl) (by intro _ _ _ h; exact h) (Or.inl ⟨by rfl, ?_⟩) (by assumption) ?_
  rotate_left
  · intro w' hSw; (try dsimp only at hSw); go_simp; (try with_reducible rfl)
  try simp only [Act.put, List.setIfInBounds_toArray, List.set_cons_zero, List.set_cons_succ]
  refine wpAnyH_take (i := 15) (v := ?_) (by simp only [List.getElem?_toArray, List.getElem?_cons_succ, List.getElem?_cons_zero]; rfl) (by kernel_rfl) (by kernel_rfl) (by kernel_rfl) (by intro _ _ _ h; exact h) (Or.inl ⟨by rfl, ?_⟩) (by assumption) ?_
  rotate_left
  · intro w' hSw; (try dsimp only at hSw); go_simp; (try with_reducible rfl)
  try simp only [Act.put, List.setIfInBounds_toArray, List.set_cons_zero, List.set_cons_succ]
  refine wpAnyH_take (i := 16) (v := ?_) (by simp only [List.getElem?_toArray, List.getElem?_cons_succ, List.getElem?_cons_zero]; rfl) (by kernel_rfl) (by kernel_rfl) (by kernel_rfl) (by intro _ _ _ h; exact h) (Or.inl ⟨by rfl, ?_⟩) (by assumption) ?_
  rotate_left
  · intro w' hSw; (try dsimp only at hSw); go_simp; (try with_reducible rfl)
  try simp only [Act.put, List.setIfInBounds_toArray, List.set_cons_zero, List.set_cons_succ]
  refine wpAnyH_take (i := 17) (v := ?_) (by simp only [List.getElem?_toArray, List.getElem?_cons_succ, List.getElem?_cons_zero]; rfl) (by kernel_rfl) (by kernel_rfl) (by kernel_rfl) (by intro _ _ _ h; exact h) (Or.inl ⟨by rfl, ?_⟩) (by assumption) ?_
  rotate_left
  · intro w' hSw; (try dsimp only at hSw); go_simp; (try with_reducible rfl)
  try simp only [Act.put, List.setIfInBounds_toArray, List.set_cons_zero, List.set_cons_succ]
  refine wpAnyH_take (i := 18) (v := ?_) (by simp only [List.getElem?_toArray, List.getElem?_cons_succ, List.getElem?_cons_zero]; rfl) (by kernel_rfl) (by kernel_rfl) (by kernel_rfl) (by intro _ _ _ h; exact h) (Or.inl ⟨by rfl, ?_⟩) (by assumption) ?_
  rotate_left
  · intro w' hSw; (try dsimp only at hSw); go_simp; (try with_reducible rfl)
  try simp only [Act.put, List.setIfInBounds_toArray, List.set_cons_zero, List.set_cons_succ]
  refine wpAnyH_take (i := 19) (v := ?_) (by simp only [List.getElem?_toArray, List.getElem?_cons_succ, List.getElem?_cons_zero]; rfl) (by kernel_rfl) (by kernel_rfl) (by kernel_rfl) (by intro _ _ _ h; exact h) (Or.inl ⟨by rfl, ?_⟩) (by assumption) ?_
  rotate_left
  · intro w' hSw; (try dsimp only at hSw); go_simp; (try with_reducible rfl)
  try simp only [Act.put, List.setIfInBounds_toArray, List.set_cons_zero, List.set_cons_succ]
  refine wpAnyH_take (i := 20) (v := ?_) (by simp only [List.getElem?_toArray, List.getElem?_cons_succ, List.getElem?_cons_zero]; rfl) (by kernel_rfl) (by kernel_rfl) (by kernel_rfl) (by intro _ _ _ h; exact h) (Or.inl ⟨by rfl, ?_⟩) (by assumption) ?_
  rotate_left
  · intro w' hSw; (try dsimp only at hSw); go_simp; (try with_reducible rfl)
  try simp only [Act.put, List.setIfInBounds_toArray, List.set_cons_zero, List.set_cons_succ]
  refine wpAnyH_ready (rs := [21]) (by kernel_rfl) (by simp) ?_
  refine AllReadyH.cons (by simp only [List.getElem?_toArray, List.getElem?_cons_succ, List.getElem?_cons_zero]; rfl) (fun K hK => ?_) AllReadyH.nil
  go_simp
  go_at_call 77
  refine (endS77 a l b m w _ w.heap.size (w.heap.size + 1) hHeld a l ha hl).mono ?_
  rintro e w2 ⟨rfl, hk⟩
  clear hHeld
  go_wp2_with fail
  refine hK.out _ _ hk (fun hHeld => ?_)
  clear hK K hk
  try simp only [Act.put, List.setIfInBounds_toArray, List.set_cons_zero, List.set_cons_succ]
  refine wpAnyH_take (i := 22) (v := ?_) (by simp only [List.getElem?_toArray, List.getElem?_cons_succ, List.getElem?_cons_zero]; rfl) (by kernel_rfl) (by kernel_rfl) (by kernel_rfl) (by intro _ _ _ h; exact h) (Or.inl ⟨by rfl, ?_⟩) (by assumption) ?_
  rotate_left
  · intro w' hSw; (try dsimp only at hSw); go_simp; (try with_reducible rfl)
  try simp only [Act.put, List.setIfInBounds_toArray, List.set_cons_zero, List.set_cons_succ]
  refine wpAnyH_take (i := 23) (v := ?_) (by simp only [List.getElem?_toArray, List.getElem?_cons_succ, List.getElem?_cons_zero]; rfl) (by kernel_rfl) (by kernel_rfl) (by kernel_rfl) (by intro _ _ _ h; exact h) (Or.inl ⟨by rfl, ?_⟩) (by assumption) ?_
  rotate_left
  · intro w' hSw; (try dsimp only at hSw); go_simp; (try with_reducible rfl)
  try simp only [Act.put, List.setIfInBounds_toArray, List.set_cons_zero, List.set_cons_succ]
  refine wpAnyH_take (i := 24) (v := ?_) (by simp only [List.getElem?_toArray, List.getElem?_cons_succ, List.getElem?_cons_zero]; rfl) (by kernel_rfl) (by kernel_rfl) (by kernel_rfl) (by intro _ _ _ h; exact h) (Or.inl ⟨by rfl, ?_⟩) (by assumption) ?_
  rotate_left
  · intro w' hSw; (try dsimp only at hSw); go_simp; (try with_reducible rfl)
  try simp only [Act.put, List.setIfInBounds_toArray, List.set_cons_zero, List.set_cons_succ]
  refine wpAnyH_done (by kernel_rfl) ?_ _
  have hg := hHeld.1
  clear hHeld
  go_wp2_with fail
  go_ret
  exact ⟨rfl, hg⟩
set_option maxHeartbeats 2000000 in
theorem lap40_i (a l b m : Int) (w : World) (h1 : 0 < l) (h2 : ¬ 0 < m) :
    Calls Try.prog 40 #[.agg #[.int .u32 a, .int .u32 l], .agg #[.int .u32 b, .int .u32 m]] w fun e w' => e = .returned (.bool false) ∧ w.grownBy w' none := by
  have hG := hid (fun n => grown_trans (grown_trans (World.grownBy_alloc w (.cells #[.int .u32 a, .int .u32 l] 59) none) (World.grownBy_alloc _ (.cells #[.int .u32 b, .int .u32 m] 59) none)) (grownBy_drewN' _ n none))
  have h1' : (0 < l) = True := eq_true h1
  have h2' : (0 < m) = False := eq_false h2
  clear h1 h2
  go_enter Try.func40, Try.ntmps40
  go_wp2_with fail
  go_quiet ((fail))
  go_wp2_with fail
  go_ret
  exact ⟨rfl, hG.out _⟩
set_option maxHeartbeats 2000000 in
theorem lap40_j (a l b m : Int) (w : World) (h1 : ¬ 0 < l) :
    Calls Try.prog 40 #[.agg #[.int .u32 a, .int .u32 l], .agg #[.int .u32 b, .int .u32 m]] w fun e w' => e = .returned (.bool false) ∧ w.grownBy w' none := by
  have hG := hid (fun n => grown_trans (grown_trans (World.grownBy_alloc w (.cells #[.int .u32 a, .int .u32 l] 59) none) (World.grownBy_alloc _ (.cells #[.int .u32 b, .int .u32 m] 59) none)) (grownBy_drewN' _ n none))
  have h1' : (0 < l) = False := eq_false h1
  clear h1
  go_enter Try.func40, Try.ntmps40
  go_wp2_with fail
  go_quiet ((fail))
  go_wp2_with fail
  go_ret
  exact ⟨rfl, hG.out _⟩
theorem lapG40 (a l b m : Int) (w : World) (ha : 0 ≤ a ∧ a ≤ 4294967295) (hl : 0 ≤ l ∧ l ≤ 4294967295) (hb : 0 ≤ b ∧ b ≤ 4294967295) (hm : 0 ≤ m ∧ m ≤ 4294967295) : Calls Try.prog 40 #[.agg #[.int .u32 a, .int .u32 l], .agg #[.int .u32 b, .int .u32 m]] w fun e w' => e = .returned (.bool (lapB a l b m)) ∧ w.grownBy w' none := by
  by_cases h1 : 0 < l
  · by_cases h2 : 0 < m
    · by_cases h3 : a < b + m
      · by_cases h4 : b < a + l
        · rw [show lapB a l b m = true by simp [lapB, h1, h2, h3, h4]]
          exact lap40_g a l b m w ha hl hb hm h1 h2 h3 h4
        · rw [show lapB a l b m = false by simp [lapB, h1, h2, h3, h4]]
          exact lap40_h a l b m w ha hl hb hm h1 h2 h3 h4
      · rw [show lapB a l b m = false by simp [lapB, h1, h2, h3]]
        exact lap40_f a l b m w ha hl hb hm h1 h2 h3
    · rw [show lapB a l b m = false by simp [lapB, h1, h2]]
      exact lap40_i a l b m w h1 h2
  · rw [show lapB a l b m = false by simp [lapB, h1]]
    exact lap40_j a l b m w h1

theorem endS81 (a l b m : Int) (W w : World) (p q : Nat) (h : W.grownBy w none ∧ w.cell? ⟨p, 0, none⟩ = some (.int .u32 a) ∧ w.cell? ⟨p, 1, none⟩ = some (.int .u32 l) ∧ w.cell? ⟨q, 0, none⟩ = some (.int .u32 b) ∧ w.cell? ⟨q, 1, none⟩ = some (.int .u32 m)) (x y : Int) (hx : 0 ≤ x ∧ x ≤ 4294967295) (hy : 0 ≤ y ∧ y ≤ 4294967295) :
    Calls Try.prog 81 #[.agg #[.int .u32 x, .int .u32 y]] w fun e w' => e = .returned (.int .u64 (x + y)) ∧ W.grownBy w' none ∧ w'.cell? ⟨p, 0, none⟩ = some (.int .u32 a) ∧ w'.cell? ⟨p, 1, none⟩ = some (.int .u32 l) ∧ w'.cell? ⟨q, 0, none⟩ = some (.int .u32 b) ∧ w'.cell? ⟨q, 1, none⟩ = some (.int .u32 m) :=
  (end81 x y w hx hy).mono fun e w' ⟨h1, h2⟩ => ⟨h1, grown_trans h.1 h2, h2.cell h.2.1 (by simp), h2.cell h.2.2.1 (by simp), h2.cell h.2.2.2.1 (by simp), h2.cell h.2.2.2.2 (by simp)⟩

set_option maxHeartbeats 2000000 in
theorem lap41_f (a l b m : Int) (w : World) (ha : 0 ≤ a ∧ a ≤ 4294967295) (hl : 0 ≤ l ∧ l ≤ 4294967295) (hb : 0 ≤ b ∧ b ≤ 4294967295) (hm : 0 ≤ m ∧ m ≤ 4294967295) (h1 : 0 < l) (h2 : 0 < m) (h3 : ¬ a < b + m) :
    Calls Try.prog 41 #[.agg #[.int .u32 a, .int .u32 l], .agg #[.int .u32 b, .int .u32 m]] w fun e w' => e = .returned (.bool false) ∧ w.grownBy w' none := by
  have hwa : IntKind.u64.wrap a = a := by rw [IntKind.wrap_u64]; omega
  have hwb : IntKind.u64.wrap b = b := by rw [IntKind.wrap_u64]; omega
  have hG := hid (show w.grownBy ((w.alloc (.cells #[.int .u32 a, .int .u32 l] 59)).alloc (.cells #[.int .u32 b, .int .u32 m] 59)).drew none from grown_trans (grown_trans (World.grownBy_alloc _ _ _) (World.grownBy_alloc _ _ _)) (grownBy_drew' _ none))
  have h3' : (a < b + m) = False := eq_false h3
  have h1' : (0 < l) = True := eq_true h1
  have h2' : (0 < m) = True := eq_true h2
  clear h1 h2 h3
  go_enter Try.func41, Try.ntmps41
  go_wp2_with fail
  refine wp_region_held_drew (S := (fun w' => w.grownBy w' none ∧ w'.cell? ⟨w.heap.size, 0, none⟩ = some (.int .u32 a) ∧ w'.cell? ⟨w.heap.size, 1, none⟩ = some (.int .u32 l) ∧ w'.cell? ⟨w.heap.size + 1, 0, none⟩ = some (.int .u32 b) ∧ w'.cell? ⟨w.heap.size + 1, 1, none⟩ = some (.int .u32 m))) (by kernel_rfl) ⟨hG.out, by simp, by simp, by simp, by simp⟩ (fun hHeld => ?_)
  refine wpAnyH_take (i := 0) (v := ?_) (by simp only [List.getElem?_toArray, List.getElem?_cons_succ, List.getElem?_cons_zero]; rfl) (by kernel_rfl) (by kernel_rfl) (by kernel_rfl) (by intro _ _ _ h; exact h) (Or.inl ⟨by rfl, ?_⟩) (by assumption) ?_
  rotate_left
  · intro w' hSw; (try dsimp only at hSw); go_simp; (try with_reducible rfl)
  try simp only [Act.put, List.setIfInBounds_toArray, List.set_cons_zero, List.set_cons_succ]
  refine wpAnyH_take (i := 1) (v := ?_) (by simp only [List.getElem?_toArray, List.getElem?_cons_succ, List.getElem?_cons_zero]; rfl) (by kernel_rfl) (by kernel_rfl) (by kernel_rfl) (by intro _ _ _ h; exact h) (Or.inl ⟨by rfl, ?_⟩) (by assumption) ?_
  rotate_left
  · intro w' hSw; (try dsimp only at hSw); go_simp; (try with_reducible rfl)
  try simp only [Act.put, List.setIfInBounds_toArray, List.set_cons_zero, List.set_cons_succ]
  refine wpAnyH_take (i := 2) (v := ?_) (by simp only [List.getElem?_toArray, List.getElem?_cons_succ, List.getElem?_cons_zero]; rfl) (by kernel_rfl) (by kernel_rfl) (by kernel_rfl) (by intro _ _ _ h; exact h) (Or.inl ⟨by rfl, ?_⟩) (by assumption) ?_
  rotate_left
  · intro w' hSw; (try dsimp only at hSw); go_simp; (try with_reducible rfl)
  try simp only [Act.put, List.setIfInBounds_toArray, List.set_cons_zero, List.set_cons_succ]
  refine wpAnyH_take (i := 3) (v := ?_) (by simp only [List.getElem?_toArray, List.getElem?_cons_succ, List.getElem?_cons_zero]; rfl) (by kernel_rfl) (by kernel_rfl) (by kernel_rfl) (by intro _ _ _ h; exact h) (Or.inl ⟨by rfl, ?_⟩) (by assumption) ?_
  rotate_left
  · intro w' hSw; (try dsimp only at hSw); go_simp; (try with_reducible rfl)
  try simp only [Act.put, List.setIfInBounds_toArray, List.set_cons_zero, List.set_cons_succ]
  refine wpAnyH_take (i := 4) (v := ?_) (by simp only [List.getElem?_toArray, List.getElem?_cons_succ, List.getElem?_cons_zero]; rfl) (by kernel_rfl) (by kernel_rfl) (by kernel_rfl) (by intro _ _ _ h; exact h) (Or.inl ⟨by rfl, ?_⟩) (by assumption) ?_
  rotate_left
  · intro w' hSw; (try dsimp only at hSw); go_simp; (try with_reducible rfl)
  try simp only [Act.put, List.setIfInBounds_toArray, List.set_cons_zero, List.set_cons_succ]
  refine wpAnyH_take (i := 5) (v := ?_) (by simp only [List.getElem?_toArray, List.getElem?_cons_succ, List.getElem?_cons_zero]; rfl) (by kernel_rfl) (by kernel_rfl) (by kernel_rfl) (by intro _ _ _ h; exact h) (Or.inl ⟨by rfl, ?_⟩) (by assumption) ?_
  rotate_left
  · intro w' hSw; (try dsimp only at hSw); go_simp; (try with_reducible rfl)
  try simp only [Act.put, List.setIfInBounds_toArray, List.set_cons_zero, List.set_cons_succ]
  refine wpAnyH_take (i := 6) (v := ?_) (by simp only [List.getElem?_toArray, List.getElem?_cons_succ, List.getElem?_cons_zero]; rfl) (by kernel_rfl) (by kernel_rfl) (by kernel_rfl) (by intro _ _ _ h; exact h) (Or.inl ⟨by rfl, ?_⟩) (by assumption) ?_
  rotate_left
  · intro w' hSw; (try dsimp only at hSw); go_simp; (try with_reducible rfl)
  try simp only [Act.put, List.setIfInBounds_toArray, List.set_cons_zero, List.set_cons_succ]
  refine wpAnyH_take (i := 7) (v := ?_) (by simp only [List.getElem?_toArray, List.getElem?_cons_succ, List.getElem?_cons_zero]; rfl) (by kernel_rfl) (by kernel_rfl) (by kernel_rfl) (by intro _ _ _ h; exact h) (Or.inl ⟨by rfl, ?_⟩) (by assumption) ?_
  rotate_left
  · intro w' hSw; (try dsimp only at hSw); go_simp; (try with_reducible rfl)
  try simp only [Act.put, List.setIfInBounds_toArray, List.set_cons_zero, List.set_cons_succ]
  refine wpAnyH_take (i := 8) (v := ?_) (by simp only [List.getElem?_toArray, List.getElem?_cons_succ, List.getElem?_cons_zero]; rfl) (by kernel_rfl) (by kernel_rfl) (by kernel_rfl) (by intro _ _ _ h; exact h) (Or.inl ⟨by rfl, ?_⟩) (by assumption) ?_
  rotate_left
  · intro w' hSw; (try dsimp only at hSw); go_simp; (try with_reducible rfl)
  try simp only [Act.put, List.setIfInBounds_toArray, List.set_cons_zero, List.set_cons_succ]
  refine wpAnyH_take (i := 9) (v := ?_) (by simp only [List.getElem?_toArray, List.getElem?_cons_succ, List.getElem?_cons_zero]; rfl) (by kernel_rfl) (by kernel_rfl) (by kernel_rfl) (by intro _ _ _ h; exact h) (Or.inl ⟨by rfl, ?_⟩) (by assumption) ?_
  rotate_left
  · intro w' hSw; (try dsimp only at hSw); go_simp; (try with_reducible rfl)
  try simp only [Act.put, List.setIfInBounds_toArray, List.set_cons_zero, List.set_cons_succ]
  refine wpAnyH_take (i := 10) (v := ?_) (by simp only [List.getElem?_toArray, List.getElem?_cons_succ, List.getElem?_cons_zero]; rfl) (by kernel_rfl) (by kernel_rfl) (by kernel_rfl) (by intro _ _ _ h; exact h) (Or.inl ⟨by rfl, ?_⟩) (by assumption) ?_
  rotate_left
  · intro w' hSw; (try dsimp only at hSw); go_simp; (try with_reducible rfl)
  try simp only [Act.put, List.setIfInBounds_toArray, List.set_cons_zero, List.set_cons_succ]
  refine wpAnyH_take (i := 11) (v := ?_) (by simp only [List.getElem?_toArray, List.getElem?_cons_succ, List.getElem?_cons_zero]; rfl) (by kernel_rfl) (by kernel_rfl) (by kernel_rfl) (by intro _ _ _ h; exact h) (Or.inl ⟨by rfl, ?_⟩) (by assumption) ?_
  rotate_left
  · intro w' hSw; (try dsimp only at hSw); go_simp; (try with_reducible rfl)
  try simp only [Act.put, List.setIfInBounds_toArray, List.set_cons_zero, List.set_cons_succ]
  refine wpAnyH_take (i := 12) (v := ?_) (by simp only [List.getElem?_toArray, List.getElem?_cons_succ, List.getElem?_cons_zero]; rfl) (by kernel_rfl) (by kernel_rfl) (by kernel_rfl) (by intro _ _ _ h; exact h) (Or.inl ⟨by rfl, ?_⟩) (by assumption) ?_
  rotate_left
  · intro w' hSw; (try dsimp only at hSw); go_simp; (try with_reducible rfl)
  try simp only [Act.put, List.setIfInBounds_toArray, List.set_cons_zero, List.set_cons_succ]
  refine wpAnyH_ready (rs := [13]) (by kernel_rfl) (by simp) ?_
  refine AllReadyH.cons (by simp only [List.getElem?_toArray, List.getElem?_cons_succ, List.getElem?_cons_zero]; rfl) (fun K hK => ?_) AllReadyH.nil
  go_simp
  go_at_call 81
  refine (endS81 a l b m w _ w.heap.size (w.heap.size + 1) hHeld b m hb hm).mono ?_
  rintro e w2 ⟨rfl, hk⟩
  clear hHeld
  go_wp2_with fail
  refine hK.out _ _ hk (fun hHeld => ?_)
  clear hK K hk
  try simp only [Act.put, List.setIfInBounds_toArray, List.set_cons_zero, List.set_cons_succ]
  refine wpAnyH_take (i := 14) (v := ?_) (by simp only [List.getElem?_toArray, List.getElem?_cons_succ, List.getElem?_cons_zero]; rfl) (by kernel_rfl) (by kernel_rfl) (by kernel_rfl) (by intro _ _ _ h; exact h) (Or.inl ⟨by rfl, ?_⟩) (by assumption) ?_
  rotate_left
  · intro w' hSw; (try dsimp only at hSw); go_simp; (try with_reducible rfl)
  try simp only [Act.put, List.setIfInBounds_toArray, List.set_cons_zero, List.set_cons_succ]
  refine wpAnyH_take (i := 15) (v := ?_) (by simp only [List.getElem?_toArray, List.getElem?_cons_succ, List.getElem?_cons_zero]; rfl) (by kernel_rfl) (by kernel_rfl) (by kernel_rfl) (by intro _ _ _ h; exact h) (Or.inl ⟨by rfl, ?_⟩) (by assumption) ?_
  rotate_left
  · intro w' hSw; (try dsimp only at hSw); go_simp; (try with_reducible rfl)
  try simp only [Act.put, List.setIfInBounds_toArray, List.set_cons_zero, List.set_cons_succ]
  refine wpAnyH_take (i := 16) (v := ?_) (by simp only [List.getElem?_toArray, List.getElem?_cons_succ, List.getElem?_cons_zero]; rfl) (by kernel_rfl) (by kernel_rfl) (by kernel_rfl) (by intro _ _ _ h; exact h) (Or.inl ⟨by rfl, ?_⟩) (by assumption) ?_
  rotate_left
  · intro w' hSw; (try dsimp only at hSw); go_simp; (try with_reducible rfl)
  try simp only [Act.put, List.setIfInBounds_toArray, List.set_cons_zero, List.set_cons_succ]
  refine wpAnyH_take (i := 17) (v := undef) (by simp only [List.getElem?_toArray, List.getElem?_cons_succ, List.getElem?_cons_zero]; rfl) (by kernel_rfl) (by kernel_rfl) (by kernel_rfl) (by intro _ _ _ h; exact h) (Or.inr ⟨by rfl, rfl⟩) (by assumption) ?_
  try simp only [Act.put, List.setIfInBounds_toArray, List.set_cons_zero, List.set_cons_succ]
  refine wpAnyH_take (i := 18) (v := undef) (by simp only [List.getElem?_toArray, List.getElem?_cons_succ, List.getElem?_cons_zero]; rfl) (by kernel_rfl) (by kernel_rfl) (by kernel_rfl) (by intro _ _ _ h; exact h) (Or.inr ⟨by rfl, rfl⟩) (by assumption) ?_
  try simp only [Act.put, List.setIfInBounds_toArray, List.set_cons_zero, List.set_cons_succ]
  refine wpAnyH_take (i := 19) (v := undef) (by simp only [List.getElem?_toArray, List.getElem?_cons_succ, List.getElem?_cons_zero]; rfl) (by kernel_rfl) (by kernel_rfl) (by kernel_rfl) (by intro _ _ _ h; exact h) (Or.inr ⟨by rfl, rfl⟩) (by assumption) ?_
  try simp only [Act.put, List.setIfInBounds_toArray, List.set_cons_zero, List.set_cons_succ]
  refine wpAnyH_take (i := 20) (v := undef) (by simp only [List.getElem?_toArray, List.getElem?_cons_succ, List.getElem?_cons_zero]; rfl) (by kernel_rfl) (by kernel_rfl) (by kernel_rfl) (by intro _ _ _ h; exact h) (Or.inr ⟨by rfl, rfl⟩) (by assumption) ?_
  try simp only [Act.put, List.setIfInBounds_toArray, List.set_cons_zero, List.set_cons_succ]
  refine wpAnyH_take (i := 21) (v := undef) (by simp only [List.getElem?_toArray, List.getElem?_cons_succ, List.getElem?_cons_zero]; rfl) (by kernel_rfl) (by kernel_rfl) (by kernel_rfl) (by intro _ _ _ h; exact h) (Or.inr ⟨by rfl, rfl⟩) (by assumption) ?_
  try simp only [Act.put, List.setIfInBounds_toArray, List.set_cons_zero, List.set_cons_succ]
  refine wpAnyH_take (i := 22) (v := undef) (by simp only [List.getElem?_toArray, List.getElem?_cons_succ, List.getElem?_cons_zero]; rfl) (by kernel_rfl) (by kernel_rfl) (by kernel_rfl) (by intro _ _ _ h; exact h) (Or.inr ⟨by rfl, rfl⟩) (by assumption) ?_
  try simp only [Act.put, List.setIfInBounds_toArray, List.set_cons_zero, List.set_cons_succ]
  refine wpAnyH_take (i := 23) (v := ?_) (by simp only [List.getElem?_toArray, List.getElem?_cons_succ, List.getElem?_cons_zero]; rfl) (by kernel_rfl) (by kernel_rfl) (by kernel_rfl) (by intro _ _ _ h; exact h) (Or.inl ⟨by rfl, ?_⟩) (by assumption) ?_
  rotate_left
  · intro w' hSw; (try dsimp only at hSw); go_simp; (try with_reducible rfl)
  try simp only [Act.put, List.setIfInBounds_toArray, List.set_cons_zero, List.set_cons_succ]
  refine wpAnyH_take (i := 24) (v := ?_) (by simp only [List.getElem?_toArray, List.getElem?_cons_succ, List.getElem?_cons_zero]; rfl) (by kernel_rfl) (by kernel_rfl) (by kernel_rfl) (by intro _ _ _ h; exact h) (Or.inl ⟨by rfl, ?_⟩) (by assumption) ?_
  rotate_left
  · intro w' hSw; (try dsimp only at hSw); go_simp; (try with_reducible rfl)
  try simp only [Act.put, List.setIfInBounds_toArray, List.set_cons_zero, List.set_cons_succ]
  refine wpAnyH_done (by kernel_rfl) ?_ _
  have hg := hHeld.1
  clear hHeld
  go_wp2_with fail
  go_ret
  exact ⟨rfl, hg⟩
set_option maxHeartbeats 2000000 in
theorem lap41_g (a l b m : Int) (w : World) (ha : 0 ≤ a ∧ a ≤ 4294967295) (hl : 0 ≤ l ∧ l ≤ 4294967295) (hb : 0 ≤ b ∧ b ≤ 4294967295) (hm : 0 ≤ m ∧ m ≤ 4294967295) (h1 : 0 < l) (h2 : 0 < m) (h3 : a < b + m) (h4 : b < a + l) :
    Calls Try.prog 41 #[.agg #[.int .u32 a, .int .u32 l], .agg #[.int .u32 b, .int .u32 m]] w fun e w' => e = .returned (.bool true) ∧ w.grownBy w' none := by
  have hwa : IntKind.u64.wrap a = a := by rw [IntKind.wrap_u64]; omega
  have hwb : IntKind.u64.wrap b = b := by rw [IntKind.wrap_u64]; omega
  have hG := hid (show w.grownBy ((w.alloc (.cells #[.int .u32 a, .int .u32 l] 59)).alloc (.cells #[.int .u32 b, .int .u32 m] 59)).drew none from grown_trans (grown_trans (World.grownBy_alloc _ _ _) (World.grownBy_alloc _ _ _)) (grownBy_drew' _ none))
  have h3' : (a < b + m) = True := eq_true h3
  have h4' : (b < a + l) = True := eq_true h4
  have h1' : (0 < l) = True := eq_true h1
  have h2' : (0 < m) = True := eq_true h2
  clear h1 h2 h3 h4
  go_enter Try.func41, Try.ntmps41
  go_wp2_with fail
  refine wp_region_held_drew (S := (fun w' => w.grownBy w' none ∧ w'.cell? ⟨w.heap.size, 0, none⟩ = some (.int .u32 a) ∧ w'.cell? ⟨w.heap.size, 1, none⟩ = some (.int .u32 l) ∧ w'.cell? ⟨w.heap.size + 1, 0, none⟩ = some (.int .u32 b) ∧ w'.cell? ⟨w.heap.size + 1, 1, none⟩ = some (.int .u32 m))) (by kernel_rfl) ⟨hG.out, by simp, by simp, by simp, by simp⟩ (fun hHeld => ?_)
  refine wpAnyH_take (i := 0) (v := ?_) (by simp only [List.getElem?_toArray, List.getElem?_cons_succ, List.getElem?_cons_zero]; rfl) (by kernel_rfl) (by kernel_rfl) (by kernel_rfl) (by intro _ _ _ h; exact h) (Or.inl ⟨by rfl, ?_⟩) (by assumption) ?_
  rotate_left
  · intro w' hSw; (try dsimp only at hSw); go_simp; (try with_reducible rfl)
  try simp only [Act.put, List.setIfInBounds_toArray, List.set_cons_zero, List.set_cons_succ]
  refine wpAnyH_take (i := 1) (v := ?_) (by simp only [List.getElem?_toArray, List.getElem?_cons_succ, List.getElem?_cons_zero]; rfl) (by kernel_rfl) (by kernel_rfl) (by kernel_rfl) (by intro _ _ _ h; exact h) (Or.inl ⟨by rfl, ?_⟩) (by assumption) ?_
  rotate_left
  · intro w' hSw; (try dsimp only at hSw); go_simp; (try with_reducible rfl)
  try simp only [Act.put, List.setIfInBounds_toArray, List.set_cons_zero, List.set_cons_succ]
  refine wpAnyH_take (i := 2) (v := ?_) (by simp only [List.getElem?_toArray, List.getElem?_cons_succ, List.getElem?_cons_zero]; rfl) (by kernel_rfl) (by kernel_rfl) (by kernel_rfl) (by intro _ _ _ h; exact h) (Or.inl ⟨by rfl, ?_⟩) (by assumption) ?_
  rotate_left
  · intro w' hSw; (try dsimp only at hSw); go_simp; (try with_reducible rfl)
  try simp only [Act.put, List.setIfInBounds_toArray, List.set_cons_zero, List.set_cons_succ]
  refine wpAnyH_take (i := 3) (v := ?_) (by simp only [List.getElem?_toArray, List.getElem?_cons_succ, List.getElem?_cons_zero]; rfl) (by kernel_rfl) (by kernel_rfl) (by kernel_rfl) (by intro _ _ _ h; exact h) (Or.inl ⟨by rfl, ?_⟩) (by assumption) ?_
  rotate_left
  · intro w' hSw; (try dsimp only at hSw); go_simp; (try with_reducible rfl)
  try simp only [Act.put, List.setIfInBounds_toArray, List.set_cons_zero, List.set_cons_succ]
  refine wpAnyH_take (i := 4) (v := ?_) (by simp only [List.getElem?_toArray, List.getElem?_cons_succ, List.getElem?_cons_zero]; rfl) (by kernel_rfl) (by kernel_rfl) (by kernel_rfl) (by intro _ _ _ h; exact h) (Or.inl ⟨by rfl, ?_⟩) (by assumption) ?_
  rotate_left
  · intro w' hSw; (try dsimp only at hSw); go_simp; (try with_reducible rfl)
  try simp only [Act.put, List.setIfInBounds_toArray, List.set_cons_zero, List.set_cons_succ]
  refine wpAnyH_take (i := 5) (v := ?_) (by simp only [List.getElem?_toArray, List.getElem?_cons_succ, List.getElem?_cons_zero]; rfl) (by kernel_rfl) (by kernel_rfl) (by kernel_rfl) (by intro _ _ _ h; exact h) (Or.inl ⟨by rfl, ?_⟩) (by assumption) ?_
  rotate_left
  · intro w' hSw; (try dsimp only at hSw); go_simp; (try with_reducible rfl)
  try simp only [Act.put, List.setIfInBounds_toArray, List.set_cons_zero, List.set_cons_succ]
  refine wpAnyH_take (i := 6) (v := ?_) (by simp only [List.getElem?_toArray, List.getElem?_cons_succ, List.getElem?_cons_zero]; rfl) (by kernel_rfl) (by kernel_rfl) (by kernel_rfl) (by intro _ _ _ h; exact h) (Or.inl ⟨by rfl, ?_⟩) (by assumption) ?_
  rotate_left
  · intro w' hSw; (try dsimp only at hSw); go_simp; (try with_reducible rfl)
  try simp only [Act.put, List.setIfInBounds_toArray, List.set_cons_zero, List.set_cons_succ]
  refine wpAnyH_take (i := 7) (v := ?_) (by simp only [List.getElem?_toArray, List.getElem?_cons_succ, List.getElem?_cons_zero]; rfl) (by kernel_rfl) (by kernel_rfl) (by kernel_rfl) (by intro _ _ _ h; exact h) (Or.inl ⟨by rfl, ?_⟩) (by assumption) ?_
  rotate_left
  · intro w' hSw; (try dsimp only at hSw); go_simp; (try with_reducible rfl)
  try simp only [Act.put, List.setIfInBounds_toArray, List.set_cons_zero, List.set_cons_succ]
  refine wpAnyH_take (i := 8) (v := ?_) (by simp only [List.getElem?_toArray, List.getElem?_cons_succ, List.getElem?_cons_zero]; rfl) (by kernel_rfl) (by kernel_rfl) (by kernel_rfl) (by intro _ _ _ h; exact h) (Or.inl ⟨by rfl, ?_⟩) (by assumption) ?_
  rotate_left
  · intro w' hSw; (try dsimp only at hSw); go_simp; (try with_reducible rfl)
  try simp only [Act.put, List.setIfInBounds_toArray, List.set_cons_zero, List.set_cons_succ]
  refine wpAnyH_take (i := 9) (v := ?_) (by simp only [List.getElem?_toArray, List.getElem?_cons_succ, List.getElem?_cons_zero]; rfl) (by kernel_rfl) (by kernel_rfl) (by kernel_rfl) (by intro _ _ _ h; exact h) (Or.inl ⟨by rfl, ?_⟩) (by assumption) ?_
  rotate_left
  · intro w' hSw; (try dsimp only at hSw); go_simp; (try with_reducible rfl)
  try simp only [Act.put, List.setIfInBounds_toArray, List.set_cons_zero, List.set_cons_succ]
  refine wpAnyH_take (i := 10) (v := ?_) (by simp only [List.getElem?_toArray, List.getElem?_cons_succ, List.getElem?_cons_zero]; rfl) (by kernel_rfl) (by kernel_rfl) (by kernel_rfl) (by intro _ _ _ h; exact h) (Or.inl ⟨by rfl, ?_⟩) (by assumption) ?_
  rotate_left
  · intro w' hSw; (try dsimp only at hSw); go_simp; (try with_reducible rfl)
  try simp only [Act.put, List.setIfInBounds_toArray, List.set_cons_zero, List.set_cons_succ]
  refine wpAnyH_take (i := 11) (v := ?_) (by simp only [List.getElem?_toArray, List.getElem?_cons_succ, List.getElem?_cons_zero]; rfl) (by kernel_rfl) (by kernel_rfl) (by kernel_rfl) (by intro _ _ _ h; exact h) (Or.inl ⟨by rfl, ?_⟩) (by assumption) ?_
  rotate_left
  · intro w' hSw; (try dsimp only at hSw); go_simp; (try with_reducible rfl)
  try simp only [Act.put, List.setIfInBounds_toArray, List.set_cons_zero, List.set_cons_succ]
  refine wpAnyH_take (i := 12) (v := ?_) (by simp only [List.getElem?_toArray, List.getElem?_cons_succ, List.getElem?_cons_zero]; rfl) (by kernel_rfl) (by kernel_rfl) (by kernel_rfl) (by intro _ _ _ h; exact h) (Or.inl ⟨by rfl, ?_⟩) (by assumption) ?_
  rotate_left
  · intro w' hSw; (try dsimp only at hSw); go_simp; (try with_reducible rfl)
  try simp only [Act.put, List.setIfInBounds_toArray, List.set_cons_zero, List.set_cons_succ]
  refine wpAnyH_ready (rs := [13]) (by kernel_rfl) (by simp) ?_
  refine AllReadyH.cons (by simp only [List.getElem?_toArray, List.getElem?_cons_succ, List.getElem?_cons_zero]; rfl) (fun K hK => ?_) AllReadyH.nil
  go_simp
  go_at_call 81
  refine (endS81 a l b m w _ w.heap.size (w.heap.size + 1) hHeld b m hb hm).mono ?_
  rintro e w2 ⟨rfl, hk⟩
  clear hHeld
  go_wp2_with fail
  refine hK.out _ _ hk (fun hHeld => ?_)
  clear hK K hk
  try simp only [Act.put, List.setIfInBounds_toArray, List.set_cons_zero, List.set_cons_succ]
  refine wpAnyH_take (i := 14) (v := ?_) (by simp only [List.getElem?_toArray, List.getElem?_cons_succ, List.getElem?_cons_zero]; rfl) (by kernel_rfl) (by kernel_rfl) (by kernel_rfl) (by intro _ _ _ h; exact h) (Or.inl ⟨by rfl, ?_⟩) (by assumption) ?_
  rotate_left
  · intro w' hSw; (try dsimp only at hSw); go_simp; (try with_reducible rfl)
  try simp only [Act.put, List.setIfInBounds_toArray, List.set_cons_zero, List.set_cons_succ]
  refine wpAnyH_take (i := 15) (v := ?_) (by simp only [List.getElem?_toArray, List.getElem?_cons_succ, List.getElem?_cons_zero]; rfl) (by kernel_rfl) (by kernel_rfl) (by kernel_rfl) (by intro _ _ _ h; exact h) (Or.inl ⟨by rfl, ?_⟩) (by assumption) ?_
  rotate_left
  · intro w' hSw; (try dsimp only at hSw); go_simp; (try with_reducible rfl)
  try simp only [Act.put, List.setIfInBounds_toArray, List.set_cons_zero, List.set_cons_succ]
  refine wpAnyH_take (i := 16) (v := ?_) (by simp only [List.getElem?_toArray, List.getElem?_cons_succ, List.getElem?_cons_zero]; rfl) (by kernel_rfl) (by kernel_rfl) (by kernel_rfl) (by intro _ _ _ h; exact h) (Or.inl ⟨by rfl, ?_⟩) (by assumption) ?_
  rotate_left
  · intro w' hSw; (try dsimp only at hSw); go_simp; (try with_reducible rfl)
  try simp only [Act.put, List.setIfInBounds_toArray, List.set_cons_zero, List.set_cons_succ]
  refine wpAnyH_take (i := 17) (v := ?_) (by simp only [List.getElem?_toArray, List.getElem?_cons_succ, List.getElem?_cons_zero]; rfl) (by kernel_rfl) (by kernel_rfl) (by kernel_rfl) (by intro _ _ _ h; exact h) (Or.inl ⟨by rfl, ?_⟩) (by assumption) ?_
  rotate_left
  · intro w' hSw; (try dsimp only at hSw); go_simp; (try with_reducible rfl)
  try simp only [Act.put, List.setIfInBounds_toArray, List.set_cons_zero, List.set_cons_succ]
  refine wpAnyH_take (i := 18) (v := ?_) (by simp only [List.getElem?_toArray, List.getElem?_cons_succ, List.getElem?_cons_zero]; rfl) (by kernel_rfl) (by kernel_rfl) (by kernel_rfl) (by intro _ _ _ h; exact h) (Or.inl ⟨by rfl, ?_⟩) (by assumption) ?_
  rotate_left
  · intro w' hSw; (try dsimp only at hSw); go_simp; (try with_reducible rfl)
  try simp only [Act.put, List.setIfInBounds_toArray, List.set_cons_zero, List.set_cons_succ]
  refine wpAnyH_take (i := 19) (v := ?_) (by simp only [List.getElem?_toArray, List.getElem?_cons_succ, List.getElem?_cons_zero]; rfl) (by kernel_rfl) (by kernel_rfl) (by kernel_rfl) (by intro _ _ _ h; exact h) (Or.inl ⟨by rfl, ?_⟩) (by assumption) ?_
  rotate_left
  · intro w' hSw; (try dsimp only at hSw); go_simp; (try with_reducible rfl)
  try simp only [Act.put, List.setIfInBounds_toArray, List.set_cons_zero, List.set_cons_succ]
  refine wpAnyH_take (i := 20) (v := ?_) (by simp only [List.getElem?_toArray, List.getElem?_cons_succ, List.getElem?_cons_zero]; rfl) (by kernel_rfl) (by kernel_rfl) (by kernel_rfl) (by intro _ _ _ h; exact h) (Or.inl ⟨by rfl, ?_⟩) (by assumption) ?_
  rotate_left
  · intro w' hSw; (try dsimp only at hSw); go_simp; (try with_reducible rfl)
  try simp only [Act.put, List.setIfInBounds_toArray, List.set_cons_zero, List.set_cons_succ]
  refine wpAnyH_ready (rs := [21]) (by kernel_rfl) (by simp) ?_
  refine AllReadyH.cons (by simp only [List.getElem?_toArray, List.getElem?_cons_succ, List.getElem?_cons_zero]; rfl) (fun K hK => ?_) AllReadyH.nil
  go_simp
  go_at_call 81
  refine (endS81 a l b m w _ w.heap.size (w.heap.size + 1) hHeld a l ha hl).mono ?_
  rintro e w2 ⟨rfl, hk⟩
  clear hHeld
  go_wp2_with fail
  refine hK.out _ _ hk (fun hHeld => ?_)
  clear hK K hk
  try simp only [Act.put, List.setIfInBounds_toArray, List.set_cons_zero, List.set_cons_succ]
  refine wpAnyH_take (i := 22) (v := ?_) (by simp only [List.getElem?_toArray, List.getElem?_cons_succ, List.getElem?_cons_zero]; rfl) (by kernel_rfl) (by kernel_rfl) (by kernel_rfl) (by intro _ _ _ h; exact h) (Or.inl ⟨by rfl, ?_⟩) (by assumption) ?_
  rotate_left
  · intro w' hSw; (try dsimp only at hSw); go_simp; (try with_reducible rfl)
  try simp only [Act.put, List.setIfInBounds_toArray, List.set_cons_zero, List.set_cons_succ]
  refine wpAnyH_take (i := 23) (v := ?_) (by simp only [List.getElem?_toArray, List.getElem?_cons_succ, List.getElem?_cons_zero]; rfl) (by kernel_rfl) (by kernel_rfl) (by kernel_rfl) (by intro _ _ _ h; exact h) (Or.inl ⟨by rfl, ?_⟩) (by assumption) ?_
  rotate_left
  · intro w' hSw; (try dsimp only at hSw); go_simp; (try with_reducible rfl)
  try simp only [Act.put, List.setIfInBounds_toArray, List.set_cons_zero, List.set_cons_succ]
  refine wpAnyH_take (i := 24) (v := ?_) (by simp only [List.getElem?_toArray, List.getElem?_cons_succ, List.getElem?_cons_zero]; rfl) (by kernel_rfl) (by kernel_rfl) (by kernel_rfl) (by intro _ _ _ h; exact h) (Or.inl ⟨by rfl, ?_⟩) (by assumption) ?_
  rotate_left
  · intro w' hSw; (try dsimp only at hSw); go_simp; (try with_reducible rfl)
  try simp only [Act.put, List.setIfInBounds_toArray, List.set_cons_zero, List.set_cons_succ]
  refine wpAnyH_done (by kernel_rfl) ?_ _
  have hg := hHeld.1
  clear hHeld
  go_wp2_with fail
  go_ret
  exact ⟨rfl, hg⟩
set_option maxHeartbeats 2000000 in
theorem lap41_h (a l b m : Int) (w : World) (ha : 0 ≤ a ∧ a ≤ 4294967295) (hl : 0 ≤ l ∧ l ≤ 4294967295) (hb : 0 ≤ b ∧ b ≤ 4294967295) (hm : 0 ≤ m ∧ m ≤ 4294967295) (h1 : 0 < l) (h2 : 0 < m) (h3 : a < b + m) (h4 : ¬ b < a + l) :
    Calls Try.prog 41 #[.agg #[.int .u32 a, .int .u32 l], .agg #[.int .u32 b, .int .u32 m]] w fun e w' => e = .returned (.bool false) ∧ w.grownBy w' none := by
  have hwa : IntKind.u64.wrap a = a := by rw [IntKind.wrap_u64]; omega
  have hwb : IntKind.u64.wrap b = b := by rw [IntKind.wrap_u64]; omega
  have hG := hid (show w.grownBy ((w.alloc (.cells #[.int .u32 a, .int .u32 l] 59)).alloc (.cells #[.int .u32 b, .int .u32 m] 59)).drew none from grown_trans (grown_trans (World.grownBy_alloc _ _ _) (World.grownBy_alloc _ _ _)) (grownBy_drew' _ none))
  have h3' : (a < b + m) = True := eq_true h3
  have h4' : (b < a + l) = False := eq_false h4
  have h1' : (0 < l) = True := eq_true h1
  have h2' : (0 < m) = True := eq_true h2
  clear h1 h2 h3 h4
  go_enter Try.func41, Try.ntmps41
  go_wp2_with fail
  refine wp_region_held_drew (S := (fun w' => w.grownBy w' none ∧ w'.cell? ⟨w.heap.size, 0, none⟩ = some (.int .u32 a) ∧ w'.cell? ⟨w.heap.size, 1, none⟩ = some (.int .u32 l) ∧ w'.cell? ⟨w.heap.size + 1, 0, none⟩ = some (.int .u32 b) ∧ w'.cell? ⟨w.heap.size + 1, 1, none⟩ = some (.int .u32 m))) (by kernel_rfl) ⟨hG.out, by simp, by simp, by simp, by simp⟩ (fun hHeld => ?_)
  refine wpAnyH_take (i := 0) (v := ?_) (by simp only [List.getElem?_toArray, List.getElem?_cons_succ, List.getElem?_cons_zero]; rfl) (by kernel_rfl) (by kernel_rfl) (by kernel_rfl) (by intro _ _ _ h; exact h) (Or.inl ⟨by rfl, ?_⟩) (by assumption) ?_
  rotate_left
  · intro w' hSw; (try dsimp only at hSw); go_simp; (try with_reducible rfl)
  try simp only [Act.put, List.setIfInBounds_toArray, List.set_cons_zero, List.set_cons_succ]
  refine wpAnyH_take (i := 1) (v := ?_) (by simp only [List.getElem?_toArray, List.getElem?_cons_succ, List.getElem?_cons_zero]; rfl) (by kernel_rfl) (by kernel_rfl) (by kernel_rfl) (by intro _ _ _ h; exact h) (Or.inl ⟨by rfl, ?_⟩) (by assumption) ?_
  rotate_left
  · intro w' hSw; (try dsimp only at hSw); go_simp; (try with_reducible rfl)
  try simp only [Act.put, List.setIfInBounds_toArray, List.set_cons_zero, List.set_cons_succ]
  refine wpAnyH_take (i := 2) (v := ?_) (by simp only [List.getElem?_toArray, List.getElem?_cons_succ, List.getElem?_cons_zero]; rfl) (by kernel_rfl) (by kernel_rfl) (by kernel_rfl) (by intro _ _ _ h; exact h) (Or.inl ⟨by rfl, ?_⟩) (by assumption) ?_
  rotate_left
  · intro w' hSw; (try dsimp only at hSw); go_simp; (try with_reducible rfl)
  try simp only [Act.put, List.setIfInBounds_toArray, List.set_cons_zero, List.set_cons_succ]
  refine wpAnyH_take (i := 3) (v := ?_) (by simp only [List.getElem?_toArray, List.getElem?_cons_succ, List.getElem?_cons_zero]; rfl) (by kernel_rfl) (by kernel_rfl) (by kernel_rfl) (by intro _ _ _ h; exact h) (Or.inl ⟨by rfl, ?_⟩) (by assumption) ?_
  rotate_left
  · intro w' hSw; (try dsimp only at hSw); go_simp; (try with_reducible rfl)
  try simp only [Act.put, List.setIfInBounds_toArray, List.set_cons_zero, List.set_cons_succ]
  refine wpAnyH_take (i := 4) (v := ?_) (by simp only [List.getElem?_toArray, List.getElem?_cons_succ, List.getElem?_cons_zero]; rfl) (by kernel_rfl) (by kernel_rfl) (by kernel_rfl) (by intro _ _ _ h; exact h) (Or.inl ⟨by rfl, ?_⟩) (by assumption) ?_
  rotate_left
  · intro w' hSw; (try dsimp only at hSw); go_simp; (try with_reducible rfl)
  try simp only [Act.put, List.setIfInBounds_toArray, List.set_cons_zero, List.set_cons_succ]
  refine wpAnyH_take (i := 5) (v := ?_) (by simp only [List.getElem?_toArray, List.getElem?_cons_succ, List.getElem?_cons_zero]; rfl) (by kernel_rfl) (by kernel_rfl) (by kernel_rfl) (by intro _ _ _ h; exact h) (Or.inl ⟨by rfl, ?_⟩) (by assumption) ?_
  rotate_left
  · intro w' hSw; (try dsimp only at hSw); go_simp; (try with_reducible rfl)
  try simp only [Act.put, List.setIfInBounds_toArray, List.set_cons_zero, List.set_cons_succ]
  refine wpAnyH_take (i := 6) (v := ?_) (by simp only [List.getElem?_toArray, List.getElem?_cons_succ, List.getElem?_cons_zero]; rfl) (by kernel_rfl) (by kernel_rfl) (by kernel_rfl) (by intro _ _ _ h; exact h) (Or.inl ⟨by rfl, ?_⟩) (by assumption) ?_
  rotate_left
  · intro w' hSw; (try dsimp only at hSw); go_simp; (try with_reducible rfl)
  try simp only [Act.put, List.setIfInBounds_toArray, List.set_cons_zero, List.set_cons_succ]
  refine wpAnyH_take (i := 7) (v := ?_) (by simp only [List.getElem?_toArray, List.getElem?_cons_succ, List.getElem?_cons_zero]; rfl) (by kernel_rfl) (by kernel_rfl) (by kernel_rfl) (by intro _ _ _ h; exact h) (Or.inl ⟨by rfl, ?_⟩) (by assumption) ?_
  rotate_left
  · intro w' hSw; (try dsimp only at hSw); go_simp; (try with_reducible rfl)
  try simp only [Act.put, List.setIfInBounds_toArray, List.set_cons_zero, List.set_cons_succ]
  refine wpAnyH_take (i := 8) (v := ?_) (by simp only [List.getElem?_toArray, List.getElem?_cons_succ, List.getElem?_cons_zero]; rfl) (by kernel_rfl) (by kernel_rfl) (by kernel_rfl) (by intro _ _ _ h; exact h) (Or.inl ⟨by rfl, ?_⟩) (by assumption) ?_
  rotate_left
  · intro w' hSw; (try dsimp only at hSw); go_simp; (try with_reducible rfl)
  try simp only [Act.put, List.setIfInBounds_toArray, List.set_cons_zero, List.set_cons_succ]
  refine wpAnyH_take (i := 9) (v := ?_) (by simp only [List.getElem?_toArray, List.getElem?_cons_succ, List.getElem?_cons_zero]; rfl) (by kernel_rfl) (by kernel_rfl) (by kernel_rfl) (by intro _ _ _ h; exact h) (Or.inl ⟨by rfl, ?_⟩) (by assumption) ?_
  rotate_left
  · intro w' hSw; (try dsimp only at hSw); go_simp; (try with_reducible rfl)
  try simp only [Act.put, List.setIfInBounds_toArray, List.set_cons_zero, List.set_cons_succ]
  refine wpAnyH_take (i := 10) (v := ?_) (by simp only [List.getElem?_toArray, List.getElem?_cons_succ, List.getElem?_cons_zero]; rfl) (by kernel_rfl) (by kernel_rfl) (by kernel_rfl) (by intro _ _ _ h; exact h) (Or.inl ⟨by rfl, ?_⟩) (by assumption) ?_
  rotate_left
  · intro w' hSw; (try dsimp only at hSw); go_simp; (try with_reducible rfl)
  try simp only [Act.put, List.setIfInBounds_toArray, List.set_cons_zero, List.set_cons_succ]
  refine wpAnyH_take (i := 11) (v := ?_) (by simp only [List.getElem?_toArray, List.getElem?_cons_succ, List.getElem?_cons_zero]; rfl) (by kernel_rfl) (by kernel_rfl) (by kernel_rfl) (by intro _ _ _ h; exact h) (Or.inl ⟨by rfl, ?_⟩) (by assumption) ?_
  rotate_left
  · intro w' hSw; (try dsimp only at hSw); go_simp; (try with_reducible rfl)
  try simp only [Act.put, List.setIfInBounds_toArray, List.set_cons_zero, List.set_cons_succ]
  refine wpAnyH_take (i := 12) (v := ?_) (by simp only [List.getElem?_toArray, List.getElem?_cons_succ, List.getElem?_cons_zero]; rfl) (by kernel_rfl) (by kernel_rfl) (by kernel_rfl) (by intro _ _ _ h; exact h) (Or.inl ⟨by rfl, ?_⟩) (by assumption) ?_
  rotate_left
  · intro w' hSw; (try dsimp only at hSw); go_simp; (try with_reducible rfl)
  try simp only [Act.put, List.setIfInBounds_toArray, List.set_cons_zero, List.set_cons_succ]
  refine wpAnyH_ready (rs := [13]) (by kernel_rfl) (by simp) ?_
  refine AllReadyH.cons (by simp only [List.getElem?_toArray, List.getElem?_cons_succ, List.getElem?_cons_zero]; rfl) (fun K hK => ?_) AllReadyH.nil
  go_simp
  go_at_call 81
  refine (endS81 a l b m w _ w.heap.size (w.heap.size + 1) hHeld b m hb hm).mono ?_
  rintro e w2 ⟨rfl, hk⟩
  clear hHeld
  go_wp2_with fail
  refine hK.out _ _ hk (fun hHeld => ?_)
  clear hK K hk
  try simp only [Act.put, List.setIfInBounds_toArray, List.set_cons_zero, List.set_cons_succ]
  refine wpAnyH_take (i := 14) (v := ?_) (by simp only [List.getElem?_toArray, List.getElem?_cons_succ, List.getElem?_cons_zero]; rfl) (by kernel_rfl) (by kernel_rfl) (by kernel_rfl) (by intro _ _ _ h; exact h) (Or.inl ⟨by rfl, ?_⟩) (by assumption) ?_
  rotate_left
  · intro w' hSw; (try dsimp only at hSw); go_simp; (try with_reducible rfl)
  try simp only [Act.put, List.setIfInBounds_toArray, List.set_cons_zero, List.set_cons_succ]
  refine wpAnyH_take (i := 15) (v := ?_) (by simp only [List.getElem?_toArray, List.getElem?_cons_succ, List.getElem?_cons_zero]; rfl) (by kernel_rfl) (by kernel_rfl) (by kernel_rfl) (by intro _ _ _ h; exact h) (Or.inl ⟨by rfl, ?_⟩) (by assumption) ?_
  rotate_left
  · intro w' hSw; (try dsimp only at hSw); go_simp; (try with_reducible rfl)
  try simp only [Act.put, List.setIfInBounds_toArray, List.set_cons_zero, List.set_cons_succ]
  refine wpAnyH_take (i := 16) (v := ?_) (by simp only [List.getElem?_toArray, List.getElem?_cons_succ, List.getElem?_cons_zero]; rfl) (by kernel_rfl) (by kernel_rfl) (by kernel_rfl) (by intro _ _ _ h; exact h) (Or.inl ⟨by rfl, ?_⟩) (by assumption) ?_
  rotate_left
  · intro w' hSw; (try dsimp only at hSw); go_simp; (try with_reducible rfl)
  try simp only [Act.put, List.setIfInBounds_toArray, List.set_cons_zero, List.set_cons_succ]
  refine wpAnyH_take (i := 17) (v := ?_) (by simp only [List.getElem?_toArray, List.getElem?_cons_succ, List.getElem?_cons_zero]; rfl) (by kernel_rfl) (by kernel_rfl) (by kernel_rfl) (by intro _ _ _ h; exact h) (Or.inl ⟨by rfl, ?_⟩) (by assumption) ?_
  rotate_left
  · intro w' hSw; (try dsimp only at hSw); go_simp; (try with_reducible rfl)
  try simp only [Act.put, List.setIfInBounds_toArray, List.set_cons_zero, List.set_cons_succ]
  refine wpAnyH_take (i := 18) (v := ?_) (by simp only [List.getElem?_toArray, List.getElem?_cons_succ, List.getElem?_cons_zero]; rfl) (by kernel_rfl) (by kernel_rfl) (by kernel_rfl) (by intro _ _ _ h; exact h) (Or.inl ⟨by rfl, ?_⟩) (by assumption) ?_
  rotate_left
  · intro w' hSw; (try dsimp only at hSw); go_simp; (try with_reducible rfl)
  try simp only [Act.put, List.setIfInBounds_toArray, List.set_cons_zero, List.set_cons_succ]
  refine wpAnyH_take (i := 19) (v := ?_) (by simp only [List.getElem?_toArray, List.getElem?_cons_succ, List.getElem?_cons_zero]; rfl) (by kernel_rfl) (by kernel_rfl) (by kernel_rfl) (by intro _ _ _ h; exact h) (Or.inl ⟨by rfl, ?_⟩) (by assumption) ?_
  rotate_left
  · intro w' hSw; (try dsimp only at hSw); go_simp; (try with_reducible rfl)
  try simp only [Act.put, List.setIfInBounds_toArray, List.set_cons_zero, List.set_cons_succ]
  refine wpAnyH_take (i := 20) (v := ?_) (by simp only [List.getElem?_toArray, List.getElem?_cons_succ, List.getElem?_cons_zero]; rfl) (by kernel_rfl) (by kernel_rfl) (by kernel_rfl) (by intro _ _ _ h; exact h) (Or.inl ⟨by rfl, ?_⟩) (by assumption) ?_
  rotate_left
  · intro w' hSw; (try dsimp only at hSw); go_simp; (try with_reducible rfl)
  try simp only [Act.put, List.setIfInBounds_toArray, List.set_cons_zero, List.set_cons_succ]
  refine wpAnyH_ready (rs := [21]) (by kernel_rfl) (by simp) ?_
  refine AllReadyH.cons (by simp only [List.getElem?_toArray, List.getElem?_cons_succ, List.getElem?_cons_zero]; rfl) (fun K hK => ?_) AllReadyH.nil
  go_simp
  go_at_call 81
  refine (endS81 a l b m w _ w.heap.size (w.heap.size + 1) hHeld a l ha hl).mono ?_
  rintro e w2 ⟨rfl, hk⟩
  clear hHeld
  go_wp2_with fail
  refine hK.out _ _ hk (fun hHeld => ?_)
  clear hK K hk
  try simp only [Act.put, List.setIfInBounds_toArray, List.set_cons_zero, List.set_cons_succ]
  refine wpAnyH_take (i := 22) (v := ?_) (by simp only [List.getElem?_toArray, List.getElem?_cons_succ, List.getElem?_cons_zero]; rfl) (by kernel_rfl) (by kernel_rfl) (by kernel_rfl) (by intro _ _ _ h; exact h) (Or.inl ⟨by rfl, ?_⟩) (by assumption) ?_
  rotate_left
  · intro w' hSw; (try dsimp only at hSw); go_simp; (try with_reducible rfl)
  try simp only [Act.put, List.setIfInBounds_toArray, List.set_cons_zero, List.set_cons_succ]
  refine wpAnyH_take (i := 23) (v := ?_) (by simp only [List.getElem?_toArray, List.getElem?_cons_succ, List.getElem?_cons_zero]; rfl) (by kernel_rfl) (by kernel_rfl) (by kernel_rfl) (by intro _ _ _ h; exact h) (Or.inl ⟨by rfl, ?_⟩) (by assumption) ?_
  rotate_left
  · intro w' hSw; (try dsimp only at hSw); go_simp; (try with_reducible rfl)
  try simp only [Act.put, List.setIfInBounds_toArray, List.set_cons_zero, List.set_cons_succ]
  refine wpAnyH_take (i := 24) (v := ?_) (by simp only [List.getElem?_toArray, List.getElem?_cons_succ, List.getElem?_cons_zero]; rfl) (by kernel_rfl) (by kernel_rfl) (by kernel_rfl) (by intro _ _ _ h; exact h) (Or.inl ⟨by rfl, ?_⟩) (by assumption) ?_
  rotate_left
  · intro w' hSw; (try dsimp only at hSw); go_simp; (try with_reducible rfl)
  try simp only [Act.put, List.setIfInBounds_toArray, List.set_cons_zero, List.set_cons_succ]
  refine wpAnyH_done (by kernel_rfl) ?_ _
  have hg := hHeld.1
  clear hHeld
  go_wp2_with fail
  go_ret
  exact ⟨rfl, hg⟩
set_option maxHeartbeats 2000000 in
theorem lap41_i (a l b m : Int) (w : World) (h1 : 0 < l) (h2 : ¬ 0 < m) :
    Calls Try.prog 41 #[.agg #[.int .u32 a, .int .u32 l], .agg #[.int .u32 b, .int .u32 m]] w fun e w' => e = .returned (.bool false) ∧ w.grownBy w' none := by
  have hG := hid (fun n => grown_trans (grown_trans (World.grownBy_alloc w (.cells #[.int .u32 a, .int .u32 l] 59) none) (World.grownBy_alloc _ (.cells #[.int .u32 b, .int .u32 m] 59) none)) (grownBy_drewN' _ n none))
  have h1' : (0 < l) = True := eq_true h1
  have h2' : (0 < m) = False := eq_false h2
  clear h1 h2
  go_enter Try.func41, Try.ntmps41
  go_wp2_with fail
  go_quiet ((fail))
  go_wp2_with fail
  go_ret
  exact ⟨rfl, hG.out _⟩
set_option maxHeartbeats 2000000 in
theorem lap41_j (a l b m : Int) (w : World) (h1 : ¬ 0 < l) :
    Calls Try.prog 41 #[.agg #[.int .u32 a, .int .u32 l], .agg #[.int .u32 b, .int .u32 m]] w fun e w' => e = .returned (.bool false) ∧ w.grownBy w' none := by
  have hG := hid (fun n => grown_trans (grown_trans (World.grownBy_alloc w (.cells #[.int .u32 a, .int .u32 l] 59) none) (World.grownBy_alloc _ (.cells #[.int .u32 b, .int .u32 m] 59) none)) (grownBy_drewN' _ n none))
  have h1' : (0 < l) = False := eq_false h1
  clear h1
  go_enter Try.func41, Try.ntmps41
  go_wp2_with fail
  go_quiet ((fail))
  go_wp2_with fail
  go_ret
  exact ⟨rfl, hG.out _⟩
theorem lapG41 (a l b m : Int) (w : World) (ha : 0 ≤ a ∧ a ≤ 4294967295) (hl : 0 ≤ l ∧ l ≤ 4294967295) (hb : 0 ≤ b ∧ b ≤ 4294967295) (hm : 0 ≤ m ∧ m ≤ 4294967295) : Calls Try.prog 41 #[.agg #[.int .u32 a, .int .u32 l], .agg #[.int .u32 b, .int .u32 m]] w fun e w' => e = .returned (.bool (lapB a l b m)) ∧ w.grownBy w' none := by
  by_cases h1 : 0 < l
  · by_cases h2 : 0 < m
    · by_cases h3 : a < b + m
      · by_cases h4 : b < a + l
        · rw [show lapB a l b m = true by simp [lapB, h1, h2, h3, h4]]
          exact lap41_g a l b m w ha hl hb hm h1 h2 h3 h4
        · rw [show lapB a l b m = false by simp [lapB, h1, h2, h3, h4]]
          exact lap41_h a l b m w ha hl hb hm h1 h2 h3 h4
      · rw [show lapB a l b m = false by simp [lapB, h1, h2, h3]]
        exact lap41_f a l b m w ha hl hb hm h1 h2 h3
    · rw [show lapB a l b m = false by simp [lapB, h1, h2]]
      exact lap41_i a l b m w h1 h2
  · rw [show lapB a l b m = false by simp [lapB, h1]]
    exact lap41_j a l b m w h1

end Go.Proofs.Ytdhicfolchpmhaa

namespace Go.Proofs.Ytdhicfolchpmhaa
open Go.RowKit
set_option linter.unusedVariables false
set_option linter.unusedSimpArgs false

/-- what Apart tells -/
def APR (n : Nat) (f h : Nat → Int) (e : Ending) : Prop :=
  (∃ i j : Nat, j < i ∧ i < n ∧ lapB (f i) (h i) (f j) (h j) = true ∧ (∀ i', i' < i → ∀ j', j' < i' → lapB (f i') (h i') (f j') (h j') = false) ∧ (∀ j', j' < j → lapB (f i) (h i) (f j') (h j') = false) ∧ e = .returned (.tuple #[.int .i64 i, .int .i64 j, .bool false])) ∨
  ((∀ i, i < n → ∀ j, j < i → lapB (f i) (h i) (f j) (h j) = false) ∧ e = .returned (.tuple #[.int .i64 0, .int .i64 0, .bool true]))
theorem APR.same {n : Nat} {f h : Nat → Int} {a b : Ending} (h1 : APR n f h a) (h2 : APR n f h b) : a = b := by
  rcases h1 with ⟨i, j, hj, hi, hl, hn, hm, h1⟩ | ⟨hn, h1⟩ <;> rcases h2 with ⟨i2, j2, hj2, hi2, hl2, hn2, hm2, h2⟩ | ⟨hn2, h2⟩
  · have : i = i2 := by
      rcases Nat.lt_trichotomy i i2 with h | h | h
      · rw [hn2 i h j hj] at hl; cases hl
      · exact h
      · rw [hn i2 h j2 hj2] at hl2; cases hl2
    subst this
    have : j = j2 := by
      rcases Nat.lt_trichotomy j j2 with h | h | h
      · rw [hm2 j h] at hl; cases hl
      · exact h
      · rw [hm j2 h] at hl2; cases hl2
    subst this
    rw [h1, h2]
  · rw [hn2 i hi j hj] at hl; cases hl
  · rw [hn i2 hi2 j2 hj2] at hl2; cases hl2
  · rw [h1, h2]

set_option maxHeartbeats 2000000 in
theorem apartG32 (ao : Option Addr) (g n c : Nat) (hao : n = 0 ∨ ao = some ⟨g, 0, none⟩) (f : Nat → Int) (h : Nat → Int) (w : World) (hn : n ≤ 10000000) (hc : n ≤ c)
    (hcell : ∀ i, i < n → w.cell? ⟨g, i * 2, none⟩ = some (.int .u32 (f i)) ∧ w.cell? ⟨g, i * 2 + 1, none⟩ = some (.int .u32 (h i)))
    (hf : ∀ i, i < n → 0 ≤ f i ∧ f i ≤ 4294967295) (hh : ∀ i, i < n → 0 ≤ h i ∧ h i ≤ 4294967295) :
    Calls Try.prog 32 #[.slice ao n c] w fun e w' => APR n f h e ∧ w.grownBy w' none := by
  have hC := hid hcell
  have hF := hid hf
  have hH := hid hh
  clear hcell hf hh
  go_enter Try.func32, Try.ntmps32
  go_wp2_with fail
  go_loopw [11] (fun i wr => ∃ k : Nat, k ≤ n ∧ i = .int .i64 k ∧ Hid (∀ i, i < k → ∀ j, j < i → lapB (f i) (h i) (f j) (h j) = false) ∧ w.grownBy wr none) (fun i _ => n - (intOf i).toNat)
  case atStart => exact ⟨0, Nat.zero_le _, rfl, fun i hi => by omega, grown_refl _ _⟩
  case round =>
    obtain ⟨k, hk, rfl, hno, hg⟩ := hrel
    have hG := hid hg
    clear hg
    by_cases hlt : k < n
    · rcases hao with h0 | rfl
      · omega
      have hc1 := hG.out.cell (hC.out k hlt).1 (by simp)
      have hc2 := hG.out.cell (hC.out k hlt).2 (by simp)
      have hfk := hid (hF.out k hlt)
      have hhk := hid (hH.out k hlt)
      go_wp2_with fail
      go_loopw [20] (fun j w2 => ∃ m : Nat, m ≤ k ∧ j = .int .i64 m ∧ Hid (∀ j, j < m → lapB (f k) (h k) (f j) (h j) = false) ∧ w.grownBy w2 none ∧ w2.cell? ⟨wr.heap.size, 0, none⟩ = some (.int .u32 (f k)) ∧ w2.cell? ⟨wr.heap.size, 1, none⟩ = some (.int .u32 (h k))) (fun j _ => k - (intOf j).toNat)
      case atStart => exact ⟨0, Nat.zero_le _, rfl, fun j hj => by omega, grown_trans hG.out (World.grownBy_alloc _ _ _), by simp, by simp⟩
      case round =>
        clear hc1 hc2
        obtain ⟨m, hm, rfl, hni, hg, hx1, hx2⟩ := hrel
        have hG := hid hg
        clear hg
        by_cases hlt2 : m < k
        · have hfm := hid (hF.out m (by omega))
          have hhm := hid (hH.out m (by omega))
          have hc1 := hG.out.cell (hC.out m (by omega)).1 (by simp)
          have hc2 := hG.out.cell (hC.out m (by omega)).2 (by simp)
          have hlw := World.block_lt_of_cell? _ _ hx1
          have hq1' := hid ((World.grownBy_alloc wr (.cells #[.int .u32 (f m), .int .u32 (h m)] 59) none).cell hx1 (by simp))
          have hq2' := hid ((World.grownBy_alloc wr (.cells #[.int .u32 (f m), .int .u32 (h m)] 59) none).cell hx2 (by simp))
          go_wp2_with fail
          have h40 := lapG40 (f k) (h k) (f m) (h m) (wr.alloc (.cells #[.int .u32 (f m), .int .u32 (h m)] 59)) hfk.out hhk.out hfm.out hhm.out
          refine h40.mono ?_
          clear h40
          rintro e w3 ⟨rfl, hg3⟩
          have hG3 := hid (grown_trans hG.out (grown_trans (World.grownBy_alloc _ _ _) hg3))
          have hr1 := hid (hg3.cell hq1'.out (by simp))
          have hr2 := hid (hg3.cell hq2'.out (by simp))
          clear hg3 hq1' hq2' hc1 hc2 hx1 hx2 hlw
          cases hlb : lapB (f k) (h k) (f m) (h m)
          · have hlb' := hid hlb
            clear hlb
            go_wp2_with fail
            go_roundw
            case rel => exact ⟨m + 1, by omega, by go_num, fun j hj => by
              by_cases hjm : j < m
              · exact hni.out j hjm
              · obtain rfl : j = m := by omega
                exact hlb'.out, hG3.out, hr1.out, hr2.out⟩
            case measure => simp [intOf]; omega
          · have hlb' := hid hlb
            clear hlb
            go_wp2_with fail
            go_ret3
            exact ⟨.inl ⟨k, m, hlt2, hlt, hlb'.out, hno.out, hni.out, rfl⟩, hG3.out⟩
        · obtain rfl : m = k := by omega
          go_wp2_with fail
          go_roundw
          case rel => exact ⟨m + 1, by omega, by go_num, fun i hi => by
            by_cases him : i < m
            · exact hno.out i him
            · obtain rfl : i = m := by omega
              exact hni.out, hG.out⟩
          case measure => simp [intOf]; omega
    · obtain rfl : k = n := by omega
      go_wp2_with fail
      go_ret3
      exact ⟨.inr ⟨hno.out, rfl⟩, hG.out⟩

set_option maxHeartbeats 2000000 in
theorem apartG83 (ao : Option Addr) (g n c : Nat) (hao : n = 0 ∨ ao = some ⟨g, 0, none⟩) (f : Nat → Int) (h : Nat → Int) (w : World) (hn : n ≤ 10000000) (hc : n ≤ c)
    (hcell : ∀ i, i < n → w.cell? ⟨g, i * 2, none⟩ = some (.int .u32 (f i)) ∧ w.cell? ⟨g, i * 2 + 1, none⟩ = some (.int .u32 (h i)))
    (hf : ∀ i, i < n → 0 ≤ f i ∧ f i ≤ 4294967295) (hh : ∀ i, i < n → 0 ≤ h i ∧ h i ≤ 4294967295) :
    Calls Try.prog 83 #[.slice ao n c] w fun e w' => APR n f h e ∧ w.grownBy w' none := by
  have hC := hid hcell
  have hF := hid hf
  have hH := hid hh
  clear hcell hf hh
  go_enter Try.func83, Try.ntmps83
  go_wp2_with fail
  go_loopw [5] (fun i wr => ∃ k : Nat, k ≤ n ∧ i = .int .i64 k ∧ Hid (∀ i, i < k → ∀ j, j < i → lapB (f i) (h i) (f j) (h j) = false) ∧ w.grownBy wr none) (fun i _ => n - (intOf i).toNat)
  case atStart => exact ⟨0, Nat.zero_le _, rfl, fun i hi => by omega, grown_refl _ _⟩
  case round =>
    obtain ⟨k, hk, rfl, hno, hg⟩ := hrel
    have hG := hid hg
    clear hg
    by_cases hlt : k < n
    · rcases hao with h0 | rfl
      · omega
      have hc1 := hG.out.cell (hC.out k hlt).1 (by simp)
      have hc2 := hG.out.cell (hC.out k hlt).2 (by simp)
      have hfk := hid (hF.out k hlt)
      have hhk := hid (hH.out k hlt)
      go_wp2_with fail
      go_loopw [6] (fun j w2 => ∃ m : Nat, m ≤ k ∧ j = .int .i64 m ∧ Hid (∀ j, j < m → lapB (f k) (h k) (f j) (h j) = false) ∧ w.grownBy w2 none) (fun j _ => k - (intOf j).toNat)
      case atStart => exact ⟨0, Nat.zero_le _, rfl, fun j hj => by omega, hG.out⟩
      case round =>
        clear hc1 hc2
        obtain ⟨m, hm, rfl, hni, hg⟩ := hrel
        have hG := hid hg
        clear hg
        by_cases hlt2 : m < k
        · have hfm := hid (hF.out m (by omega))
          have hhm := hid (hH.out m (by omega))
          have hc1 := hG.out.cell (hC.out k hlt).1 (by simp)
          have hc2 := hG.out.cell (hC.out k hlt).2 (by simp)
          have hc3 := hG.out.cell (hC.out m (by omega)).1 (by simp)
          have hc4 := hG.out.cell (hC.out m (by omega)).2 (by simp)
          have hk0 : (0 : Int) ≤ k := Int.natCast_nonneg k
          have hk1 : (k : Int) < (n : Int) := by omega
          have hm0 : (0 : Int) ≤ m := Int.natCast_nonneg m
          have hm1 : (m : Int) < (n : Int) := by omega
          have h41 := hid (fun (W : World) (hW : wr.grownBy W none ∧ W.cell? ⟨g, k * 2, none⟩ = some (.int .u32 (f k)) ∧ W.cell? ⟨g, k * 2 + 1, none⟩ = some (.int .u32 (h k)) ∧ W.cell? ⟨g, m * 2, none⟩ = some (.int .u32 (f m)) ∧ W.cell? ⟨g, m * 2 + 1, none⟩ = some (.int .u32 (h m))) =>
            (lapG41 (f k) (h k) (f m) (h m) W hfk.out hhk.out hfm.out hhm.out).mono (R' := fun e w' => e = .returned (.bool (lapB (f k) (h k) (f m) (h m))) ∧ (wr.grownBy w' none ∧ w'.cell? ⟨g, k * 2, none⟩ = some (.int .u32 (f k)) ∧ w'.cell? ⟨g, k * 2 + 1, none⟩ = some (.int .u32 (h k)) ∧ w'.cell? ⟨g, m * 2, none⟩ = some (.int .u32 (f m)) ∧ w'.cell? ⟨g, m * 2 + 1, none⟩ = some (.int .u32 (h m)))) (fun e w' h2 => ⟨h2.1, grown_trans hW.1 h2.2, h2.2.cell hW.2.1 (by simp), h2.2.cell hW.2.2.1 (by simp), h2.2.cell hW.2.2.2.1 (by simp), h2.2.cell hW.2.2.2.2 (by simp)⟩))
          have hd := hid (grownBy_drew' wr none)
          have hyes := hid (fun (hlb : lapB (f k) (h k) (f m) (h m) = false) => (show ∀ j, j < m + 1 → lapB (f k) (h k) (f j) (h j) = false from fun j hj => by
              by_cases hjm : j < m
              · exact hni.out j hjm
              · obtain rfl : j = m := by omega
                exact hlb))
          have hend := hid (fun (hlb : lapB (f k) (h k) (f m) (h m) = true) => (show APR n f h (.returned (.tuple #[.int .i64 k, .int .i64 m, .bool false])) from .inl ⟨k, m, hlt2, hlt, hlb, hno.out, hni.out, rfl⟩))
          generalize lapB (f k) (h k) (f m) (h m) = B at *
          generalize f k = a at *
          generalize h k = l at *
          generalize f m = b at *
          generalize h m = q at *
          cases B
          · have hy := hid (hyes.out rfl)
            go_wp2_with fail
            refine wp_region_held_drew (S := (fun w' => wr.grownBy w' none ∧ w'.cell? ⟨g, k * 2, none⟩ = some (.int .u32 a) ∧ w'.cell? ⟨g, k * 2 + 1, none⟩ = some (.int .u32 l) ∧ w'.cell? ⟨g, m * 2, none⟩ = some (.int .u32 b) ∧ w'.cell? ⟨g, m * 2 + 1, none⟩ = some (.int .u32 q))) (by kernel_rfl) ⟨hd.out, by simpa using hc1, by simpa using hc2, by simpa using hc3, by simpa using hc4⟩ (fun hHeld => ?_)
            refine wpAnyH_take (i := 0) (v := ?_) (by simp only [List.getElem?_toArray, List.getElem?_cons_succ, List.getElem?_cons_zero]; rfl) (by kernel_rfl) (by kernel_rfl) (by kernel_rfl) (by intro _ _ _ h; exact h) (Or.inl ⟨by rfl, ?_⟩) (by assumption) ?_
            rotate_left
            · intro w' hSw; (try dsimp only at hSw); go_simp; (try with_reducible rfl)
            try simp only [Act.put, List.setIfInBounds_toArray, List.set_cons_zero, List.set_cons_succ]
            refine wpAnyH_take (i := 1) (v := ?_) (by simp only [List.getElem?_toArray, List.getElem?_cons_succ, List.getElem?_cons_zero]; rfl) (by kernel_rfl) (by kernel_rfl) (by kernel_rfl) (by intro _ _ _ h; exact h) (Or.inl ⟨by rfl, ?_⟩) (by assumption) ?_
            rotate_left
            · intro w' hSw; (try dsimp only at hSw); go_simp; (try with_reducible rfl)
            try simp only [Act.put, List.setIfInBounds_toArray, List.set_cons_zero, List.set_cons_succ]
            refine wpAnyH_take (i := 2) (v := ?_) (by simp only [List.getElem?_toArray, List.getElem?_cons_succ, List.getElem?_cons_zero]; rfl) (by kernel_rfl) (by kernel_rfl) (by kernel_rfl) (by intro _ _ _ h; exact h) (Or.inl ⟨by rfl, ?_⟩) (by assumption) ?_
            rotate_left
            · intro w' hSw; (try dsimp only at hSw); go_simp; (try with_reducible rfl)
            try simp only [Act.put, List.setIfInBounds_toArray, List.set_cons_zero, List.set_cons_succ]
            refine wpAnyH_take (i := 3) (v := ?_) (by simp only [List.getElem?_toArray, List.getElem?_cons_succ, List.getElem?_cons_zero]; rfl) (by kernel_rfl) (by kernel_rfl) (by kernel_rfl) (by intro _ _ _ h; exact h) (Or.inl ⟨by rfl, ?_⟩) (by assumption) ?_
            rotate_left
            · intro w' hSw; (try dsimp only at hSw); go_simp; (try with_reducible rfl)
            try simp only [Act.put, List.setIfInBounds_toArray, List.set_cons_zero, List.set_cons_succ]
            refine wpAnyH_take (i := 4) (v := ?_) (by simp only [List.getElem?_toArray, List.getElem?_cons_succ, List.getElem?_cons_zero]; rfl) (by kernel_rfl) (by kernel_rfl) (by kernel_rfl) (by intro _ _ _ h; exact h) (Or.inl ⟨by rfl, ?_⟩) (by assumption) ?_
            rotate_left
            · intro w' hSw; (try dsimp only at hSw); go_simp; (try with_reducible rfl)
            try simp only [Act.put, List.setIfInBounds_toArray, List.set_cons_zero, List.set_cons_succ]
            refine wpAnyH_take (i := 5) (v := ?_) (by simp only [List.getElem?_toArray, List.getElem?_cons_succ, List.getElem?_cons_zero]; rfl) (by kernel_rfl) (by kernel_rfl) (by kernel_rfl) (by intro _ _ _ h; exact h) (Or.inl ⟨by rfl, ?_⟩) (by assumption) ?_
            rotate_left
            · intro w' hSw; (try dsimp only at hSw); go_simp; (try with_reducible rfl)
            try simp only [Act.put, List.setIfInBounds_toArray, List.set_cons_zero, List.set_cons_succ]
            refine wpAnyH_take (i := 6) (v := ?_) (by simp only [List.getElem?_toArray, List.getElem?_cons_succ, List.getElem?_cons_zero]; rfl) (by kernel_rfl) (by kernel_rfl) (by kernel_rfl) (by intro _ _ _ h; exact h) (Or.inl ⟨by rfl, ?_⟩) (by assumption) ?_
            rotate_left
            · intro w' hSw; (try dsimp only at hSw); go_simp; (try with_reducible rfl)
            try simp only [Act.put, List.setIfInBounds_toArray, List.set_cons_zero, List.set_cons_succ]
            refine wpAnyH_take (i := 7) (v := ?_) (by simp only [List.getElem?_toArray, List.getElem?_cons_succ, List.getElem?_cons_zero]; rfl) (by kernel_rfl) (by kernel_rfl) (by kernel_rfl) (by intro _ _ _ h; exact h) (Or.inl ⟨by rfl, ?_⟩) (by assumption) ?_
            rotate_left
            · intro w' hSw; (try dsimp only at hSw); go_simp; (try with_reducible rfl)
            try simp only [Act.put, List.setIfInBounds_toArray, List.set_cons_zero, List.set_cons_succ]
            refine wpAnyH_ready (rs := [8]) (by kernel_rfl) (by simp) ?_
            refine AllReadyH.cons (by simp only [List.getElem?_toArray, List.getElem?_cons_succ, List.getElem?_cons_zero]; rfl) (fun K hK => ?_) AllReadyH.nil
            go_simp
            go_at_call 41
            refine (h41.out _ hHeld).mono ?_
            rintro e w2 ⟨rfl, hk⟩
            clear hHeld
            go_wp2_with fail
            refine hK.out _ _ hk (fun hHeld => ?_)
            clear hK K hk
            try simp only [Act.put, List.setIfInBounds_toArray, List.set_cons_zero, List.set_cons_succ]
            refine wpAnyH_done (by kernel_rfl) ?_ _
            have hg5 := hHeld.1
            clear hHeld
            have hG5 := hid (grown_trans hG.out hg5)
            clear hg5
            go_wp2_with fail
            go_roundw
            case rel => exact ⟨m + 1, by omega, by go_num, hy.out, hG5.out⟩
            case measure => simp [intOf]; omega
          · have hy := hid (hend.out rfl)
            go_wp2_with fail
            refine wp_region_held_drew (S := (fun w' => wr.grownBy w' none ∧ w'.cell? ⟨g, k * 2, none⟩ = some (.int .u32 a) ∧ w'.cell? ⟨g, k * 2 + 1, none⟩ = some (.int .u32 l) ∧ w'.cell? ⟨g, m * 2, none⟩ = some (.int .u32 b) ∧ w'.cell? ⟨g, m * 2 + 1, none⟩ = some (.int .u32 q))) (by kernel_rfl) ⟨hd.out, by simpa using hc1, by simpa using hc2, by simpa using hc3, by simpa using hc4⟩ (fun hHeld => ?_)
            refine wpAnyH_take (i := 0) (v := ?_) (by simp only [List.getElem?_toArray, List.getElem?_cons_succ, List.getElem?_cons_zero]; rfl) (by kernel_rfl) (by kernel_rfl) (by kernel_rfl) (by intro _ _ _ h; exact h) (Or.inl ⟨by rfl, ?_⟩) (by assumption) ?_
            rotate_left
            · intro w' hSw; (try dsimp only at hSw); go_simp; (try with_reducible rfl)
            try simp only [Act.put, List.setIfInBounds_toArray, List.set_cons_zero, List.set_cons_succ]
            refine wpAnyH_take (i := 1) (v := ?_) (by simp only [List.getElem?_toArray, List.getElem?_cons_succ, List.getElem?_cons_zero]; rfl) (by kernel_rfl) (by kernel_rfl) (by kernel_rfl) (by intro _ _ _ h; exact h) (Or.inl ⟨by rfl, ?_⟩) (by assumption) ?_
            rotate_left
            · intro w' hSw; (try dsimp only at hSw); go_simp; (try with_reducible rfl)
            try simp only [Act.put, List.setIfInBounds_toArray, List.set_cons_zero, List.set_cons_succ]
            refine wpAnyH_take (i := 2) (v := ?_) (by simp only [List.getElem?_toArray, List.getElem?_cons_succ, List.getElem?_cons_zero]; rfl) (by kernel_rfl) (by kernel_rfl) (by kernel_rfl) (by intro _ _ _ h; exact h) (Or.inl ⟨by rfl, ?_⟩) (by assumption) ?_
            rotate_left
            · intro w' hSw; (try dsimp only at hSw); go_simp; (try with_reducible rfl)
            try simp only [Act.put, List.setIfInBounds_toArray, List.set_cons_zero, List.set_cons_succ]
            refine wpAnyH_take (i := 3) (v := ?_) (by simp only [List.getElem?_toArray, List.getElem?_cons_succ, List.getElem?_cons_zero]; rfl) (by kernel_rfl) (by kernel_rfl) (by kernel_rfl) (by intro _ _ _ h; exact h) (Or.inl ⟨by rfl, ?_⟩) (by assumption) ?_
            rotate_left
            · intro w' hSw; (try dsimp only at hSw); go_simp; (try with_reducible rfl)
            try simp only [Act.put, List.setIfInBounds_toArray, List.set_cons_zero, List.set_cons_succ]
            refine wpAnyH_take (i := 4) (v := ?_) (by simp only [List.getElem?_toArray, List.getElem?_cons_succ, List.getElem?_cons_zero]; rfl) (by kernel_rfl) (by kernel_rfl) (by kernel_rfl) (by intro _ _ _ h; exact h) (Or.inl ⟨by rfl, ?_⟩) (by assumption) ?_
            rotate_left
            · intro w' hSw; (try dsimp only at hSw); go_simp; (try with_reducible rfl)
            try simp only [Act.put, List.setIfInBounds_toArray, List.set_cons_zero, List.set_cons_succ]
            refine wpAnyH_take (i := 5) (v := ?_) (by simp only [List.getElem?_toArray, List.getElem?_cons_succ, List.getElem?_cons_zero]; rfl) (by kernel_rfl) (by kernel_rfl) (by kernel_rfl) (by intro _ _ _ h; exact h) (Or.inl ⟨by rfl, ?_⟩) (by assumption) ?_
            rotate_left
            · intro w' hSw; (try dsimp only at hSw); go_simp; (try with_reducible rfl)
            try simp only [Act.put, List.setIfInBounds_toArray, List.set_cons_zero, List.set_cons_succ]
            refine wpAnyH_take (i := 6) (v := ?_) (by simp only [List.getElem?_toArray, List.getElem?_cons_succ, List.getElem?_cons_zero]; rfl) (by kernel_rfl) (by kernel_rfl) (by kernel_rfl) (by intro _ _ _ h; exact h) (Or.inl ⟨by rfl, ?_⟩) (by assumption) ?_
            rotate_left
            · intro w' hSw; (try dsimp only at hSw); go_simp; (try with_reducible rfl)
            try simp only [Act.put, List.setIfInBounds_toArray, List.set_cons_zero, List.set_cons_succ]
            refine wpAnyH_take (i := 7) (v := ?_) (by simp only [List.getElem?_toArray, List.getElem?_cons_succ, List.getElem?_cons_zero]; rfl) (by kernel_rfl) (by kernel_rfl) (by kernel_rfl) (by intro _ _ _ h; exact h) (Or.inl ⟨by rfl, ?_⟩) (by assumption) ?_
            rotate_left
            · intro w' hSw; (try dsimp only at hSw); go_simp; (try with_reducible rfl)
            try simp only [Act.put, List.setIfInBounds_toArray, List.set_cons_zero, List.set_cons_succ]
            refine wpAnyH_ready (rs := [8]) (by kernel_rfl) (by simp) ?_
            refine AllReadyH.cons (by simp only [List.getElem?_toArray, List.getElem?_cons_succ, List.getElem?_cons_zero]; rfl) (fun K hK => ?_) AllReadyH.nil
            go_simp
            go_at_call 41
            refine (h41.out _ hHeld).mono ?_
            rintro e w2 ⟨rfl, hk⟩
            clear hHeld
            go_wp2_with fail
            refine hK.out _ _ hk (fun hHeld => ?_)
            clear hK K hk
            try simp only [Act.put, List.setIfInBounds_toArray, List.set_cons_zero, List.set_cons_succ]
            refine wpAnyH_done (by kernel_rfl) ?_ _
            have hg5 := hHeld.1
            clear hHeld
            have hG5 := hid (grown_trans hG.out hg5)
            clear hg5
            go_wp2_with fail
            go_ret3
            exact ⟨hy.out, hG5.out⟩
        · obtain rfl : m = k := by omega
          go_wp2_with fail
          go_roundw
          case rel => exact ⟨m + 1, by omega, by go_num, fun i hi => by
            by_cases him : i < m
            · exact hno.out i him
            · obtain rfl : i = m := by omega
              exact hni.out, hG.out⟩
          case measure => simp [intOf]; omega
    · obtain rfl : k = n := by omega
      go_wp2_with fail
      go_ret3
      exact ⟨.inr ⟨hno.out, rfl⟩, hG.out⟩

end Go.Proofs.Ytdhicfolchpmhaa

namespace Go.Proofs.Ytdhicfolchpmhaa
open Go.RowKit
set_option linter.unusedVariables false
set_option linter.unusedSimpArgs false

set_option maxHeartbeats 1000000 in
theorem lay44 (first : Int) (ao : Option Addr) (n cap : Nat) (l : List Int) (w : World) (hn : n = l.length) (hl : l.length ≤ 1048576) (hf : 0 ≤ first ∧ first ≤ 4294967295) (hi : Ints .u32 w ao l) :
    Calls Try.prog 44 #[.int .u32 first, .slice ao n cap] w fun e w' => ((first + tot l ≤ 4294967295 ∧ ∃ v, e = .returned (.tuple #[v, .int .i64 0]) ∧ w'.ownsRow w.heap.size 59 2 v l.length (pairsV (spanF first l) (spanG l) l.length)) ∨ (4294967295 < first + tot l ∧ e = .returned (.tuple #[.slice none 0 0, .int .i64 20]))) ∧ Below w.heap.size w w' := by
  subst hn
  have hI := hid hi
  have hL := hid (lens_of_ints hi)
  obtain ⟨b, off, hao, hcell⟩ := hi.at
  have hC := hid hcell.out
  have hP := hid (posL_bd first l hf hL.out)
  have hA := hid (posL_all first l)
  clear hi hcell
  have hwf : IntKind.u64.wrap first = first := by rw [IntKind.wrap_u64]; omega
  go_enter Try.func44, Try.ntmps44
  go_wp2_with fail
  clear hwf
  go_loopw [6, 7, 8] (fun v p i wr => ∃ (k : Nat) (v0 : Value), k ≤ l.length ∧ p = .int .u64 (posL first l k) ∧ v0 = v ∧ i = .int .i64 k ∧ posL first l k ≤ 4294967295 ∧ wr.ownsRow w.heap.size 59 2 v0 k (pairsV (spanF first l) (spanG l) k) ∧ Below w.heap.size w wr) (fun _ _ i _ => l.length - (intOf i).toNat)
  case atStart => exact ⟨0, _, Nat.zero_le _, by rw [posL_zero], rfl, rfl, by rw [posL_zero]; exact hf.2, World.ownsRow_nil _ _ 59 2, Below.refl _ _⟩
  case round =>
    obtain ⟨k, v, hk, rfl, rfl, rfl, hp, ho, hb⟩ := hrel
    have hO := hid ho
    have hB := hid hb
    have hsz := hb.size
    clear ho hb
    by_cases hlt : k < l.length
    · rcases hao with h0 | rfl
      · omega
      have hx := hL.out.at k hlt
      have hp0 := (hP.out k hk).1
      have hsuc := hid (posL_succ first l k hlt)
      have hc : wr.cell? ⟨b, off + k, none⟩ = some (.int .u32 (l.getD k 0)) := (hB.out.cell (World.block_lt_of_cell? w _ (hC.out k hlt))).trans (hC.out k hlt)
      have hF : spanF first l k = .int .u32 (posL first l k) := rfl
      have hG : spanG l k = .int .u32 (l.getD k 0) := rfl
      have hpx := hid (pairsV_succ (spanF first l) (spanG l) k)
      rw [hF, hG] at hpx
      obtain ⟨p, hpp⟩ : ∃ p, p = posL first l k := ⟨_, rfl⟩
      obtain ⟨x, hxx⟩ : ∃ x, x = l.getD k 0 := ⟨_, rfl⟩
      have hPP := hid hpp
      have hXX := hid hxx
      rw [← hpp] at hp hp0 hpx hsuc ⊢
      rw [← hxx] at hc hx hpx hsuc
      clear hpp hxx hF hG
      have hcB := hid (fun W (hb : Below w.heap.size wr W) => (hb.cell (World.block_lt_of_cell? w _ (hC.out k hlt))).trans hc)
      have hw1 : IntKind.u32.wrap p = p := by rw [IntKind.wrap_u32]; omega
      have hw2 : IntKind.u64.wrap x = x := by rw [IntKind.wrap_u64]; omega
      have hw3 : IntKind.u64.wrap (p + x) = p + x := by rw [IntKind.wrap_u64]; omega
      by_cases hbig : p + x ≤ 4294967295
      · have hnb : (4294967295 < p + x) = False := eq_false (by omega)
        have hbg := hid hbig
        clear hbig
        go_wp2_with (at_builtin; go_must (refine wpList_append_new rfl _ _ 53 rfl w.heap.size 59 59 (.agg #[.int .u32 0, .int .u32 0]) 2 8 1 Try.underlying53 (by kernel_rfl) rfl (by decide) _ k _ [.int .u32 p, .int .u32 x] (0, 0) hO.out rfl (by simp [Value.oneCell']) (by unfold maxLen; omega) (by omega) hsz rfl rfl ?_); intro v' w1 hown' hb' _; have hcc := hcB.out _ hb')
        rw [← hpx.out] at hown'
        have hO' := hid hown'
        have hB' := hid (hB.out.trans hb')
        clear hown' hb'
        go_roundw
        case rel => exact ⟨k + 1, _, by omega, by rw [hsuc.out], rfl, by go_num, by rw [hsuc.out]; exact hbg.out, hO'.out, hB'.out⟩
        case measure => simp [intOf]; omega
      · have hnb : (4294967295 < p + x) = True := eq_true (by omega)
        have hbg := hid hbig
        clear hbig
        go_wp2_with (at_builtin; go_must (refine wpList_append_new rfl _ _ 53 rfl w.heap.size 59 59 (.agg #[.int .u32 0, .int .u32 0]) 2 8 1 Try.underlying53 (by kernel_rfl) rfl (by decide) _ k _ [.int .u32 p, .int .u32 x] (0, 0) hO.out rfl (by simp [Value.oneCell']) (by unfold maxLen; omega) (by omega) hsz rfl rfl ?_); intro v' w1 hown' hb' _; have hcc := hcB.out _ hb')
        have hB' := hid (hB.out.trans hb')
        clear hown' hb'
        go_ret2
        refine ⟨.inr ⟨?_, rfl⟩, hB'.out⟩
        have h1 := posL_mono first l hL.out l.length (k + 1) (by omega) (Nat.le_refl _)
        rw [hA.out, hsuc.out] at h1
        have := hbg.out
        omega
    · obtain rfl : k = l.length := by omega
      go_wp2_with fail
      go_ret2
      exact ⟨.inl ⟨by rw [← hA.out]; exact hp, _, rfl, hO.out⟩, hB.out⟩


set_option maxHeartbeats 1000000 in
theorem same48 (a1 a2 : Option Addr) (g1 g2 n c1 c2 : Nat) (ha1 : n = 0 ∨ a1 = some ⟨g1, 0, none⟩) (ha2 : n = 0 ∨ a2 = some ⟨g2, 0, none⟩) (f h : Nat → Int) (w : World) (hn : n ≤ 100000000)
    (h1 : ∀ i, i < n → w.cell? ⟨g1, i * 2, none⟩ = some (.int .u32 (f i)) ∧ w.cell? ⟨g1, i * 2 + 1, none⟩ = some (.int .u32 (h i)))
    (h2 : ∀ i, i < n → w.cell? ⟨g2, i * 2, none⟩ = some (.int .u32 (f i)) ∧ w.cell? ⟨g2, i * 2 + 1, none⟩ = some (.int .u32 (h i))) :
    Calls Try.prog 48 #[.slice a1 n c1, .slice a2 n c2] w fun e w' => e = .returned (.bool true) ∧ ∃ q, w' = w.drewN q := by
  have hc1 := hid h1
  have hc2 := hid h2
  clear h1 h2
  go_enter Try.func48, Try.ntmps48
  go_wp2_with fail
  go_loopw [5] (fun i wr => ∃ k q : Nat, k ≤ n ∧ i = .int .i64 k ∧ wr = w.drewN q) (fun i _ => n - (intOf i).toNat)
  case atStart => exact ⟨0, 0, Nat.zero_le _, rfl, rfl⟩
  case round =>
    obtain ⟨k, q, hk, rfl, hw⟩ := hrel
    have hW := hid hw
    by_cases hlt : k < n
    · rcases ha1 with h0 | rfl
      · omega
      rcases ha2 with h0 | rfl
      · omega
      have b1 : wr.cell? ⟨g1, k * 2, none⟩ = some (.int .u32 (f k)) := by rw [hw]; exact (hc1.out k hlt).1
      have b2 : wr.cell? ⟨g1, k * 2 + 1, none⟩ = some (.int .u32 (h k)) := by rw [hw]; exact (hc1.out k hlt).2
      have b3 : wr.cell? ⟨g2, k * 2, none⟩ = some (.int .u32 (f k)) := by rw [hw]; exact (hc2.out k hlt).1
      have b4 : wr.cell? ⟨g2, k * 2 + 1, none⟩ = some (.int .u32 (h k)) := by rw [hw]; exact (hc2.out k hlt).2
      generalize f k = x at *
      generalize h k = y at *
      clear hw
      go_wp2_with fail
      go_quiet ((fail))
      go_wp2_with fail
      go_roundw
      case rel => exact ⟨k + 1, q + nq, by omega, by go_num, by rw [hW.out]; simp⟩
      case measure => simp [intOf]; omega
    · subst hw
      go_wp2_with fail
      go_ret
      exact ⟨rfl, q, rfl⟩
end Go.Proofs.Ytdhicfolchpmhaa

namespace Go.Proofs.Ytdhicfolchpmhaa
open Go.RowKit
set_option linter.unusedVariables false
set_option linter.unusedSimpArgs false

def mU (k j : Nat) : Int := (1000003 * ((k : Int) + 1) + j) % 4294967296
def mV (k : Nat) : Int := 77 + (k : Int)

set_option maxHeartbeats 1000000 in
set_option maxRecDepth 100000 in
theorem mark87 (k j : Nat) (hk : k ≤ 1000000000) (hj : j ≤ 1000000000) (w : World) : Calls Try.prog 87 #[.int .i64 k, .int .i64 j] w fun e w' => e = .returned (.agg #[.int .u32 (mU k j), .int .u32 (mV k)]) ∧ w.grownBy w' none := by
  go_enter Try.func87, Try.ntmps87
  go_wp2_with fail
  (try simp only [Exit.inBlock, Exit.then])
  refine bodyPost_ret (results_cell_row rfl _ _ w.heap.size 59 #[.int .u32 (mU k j), .int .u32 (mV k)] (0, 0) _ rfl (heap_alloc_new w _) Try.underlying59 rfl (by kernel_rfl)) rfl ?_
  exact ⟨rfl, World.grownBy_alloc _ _ _⟩

def lF (n : Nat) (f : Nat → Int) (i : Nat) : Int := if i < n then f i else mU 0 i
def lH (n : Nat) (h : Nat → Int) (i : Nat) : Int := if i < n then h i else mV 0

theorem grown_below {w w' : World} (h : w.grownBy w' none) : Below w.heap.size w w' := (Below.refl _ _).grown h (Nat.le_refl _) (fun q hq => by simp at hq)

set_option maxHeartbeats 1000000 in
set_option maxRecDepth 100000 in
theorem lent82 (ao : Option Addr) (b off n c : Nat) (hao : n = 0 ∨ ao = some ⟨b, off, none⟩) (f h : Nat → Int) (w : World) (hn : n ≤ 100000000)
    (hcell : ∀ i, i < n → w.cell? ⟨b, off + i * 2, none⟩ = some (.int .u32 (f i)) ∧ w.cell? ⟨b, off + i * 2 + 1, none⟩ = some (.int .u32 (h i))) :
    Calls Try.prog 82 #[.slice ao n c] w fun e w' => ∃ v, e = .returned v ∧ w'.ownsRow w.heap.size 59 2 v (n + 64) (pairsV (fun i => .int .u32 (lF n f i)) (fun i => .int .u32 (lH n h i)) (n + 64)) ∧ Below w.heap.size w w' := by
  have hC := hid hcell
  clear hcell
  go_enter Try.func82, Try.ntmps82
  go_wp2_with fail
  go_loopw [3, 4] (fun v i wr => ∃ (k : Nat) (v0 : Value), k ≤ n + 64 ∧ v0 = v ∧ i = .int .i64 k ∧ wr.ownsRow w.heap.size 59 2 v0 k (pairsV (fun i => .int .u32 (lF n f i)) (fun i => .int .u32 (lH n h i)) k) ∧ Below w.heap.size w wr) (fun _ i _ => n + 64 - (intOf i).toNat)
  case atStart => exact ⟨0, _, Nat.zero_le _, rfl, rfl, World.ownsRow_nil _ _ 59 2, Below.refl _ _⟩
  case round =>
    obtain ⟨k, v, hk, rfl, rfl, ho, hb⟩ := hrel
    have hO := hid ho
    have hB := hid hb
    have hsz := hb.size
    clear ho hb
    by_cases hlt : k < n + 64
    · have hpx := hid (pairsV_succ (fun i => Value.int .u32 (lF n f i)) (fun i => Value.int .u32 (lH n h i)) k)
      by_cases hin : k < n
      · rcases hao with h0 | rfl
        · omega
        have e1 : lF n f k = f k := by simp [lF, hin]
        have e2 : lH n h k = h k := by simp [lH, hin]
        simp only [e1, e2] at hpx
        have hc1 : wr.cell? ⟨b, off + k * 2, none⟩ = some (.int .u32 (f k)) := (hB.out.cell (World.block_lt_of_cell? w _ (hC.out k hin).1)).trans (hC.out k hin).1
        have hc2 : wr.cell? ⟨b, off + k * 2 + 1, none⟩ = some (.int .u32 (h k)) := (hB.out.cell (World.block_lt_of_cell? w _ (hC.out k hin).2)).trans (hC.out k hin).2
        generalize f k = x at *
        generalize h k = y at *
        clear e1 e2
        go_wp2_with (at_builtin; go_must (refine wpList_append_new rfl _ _ 53 rfl w.heap.size 59 59 (.agg #[.int .u32 0, .int .u32 0]) 2 8 1 Try.underlying53 (by kernel_rfl) rfl (by decide) _ k _ [.int .u32 x, .int .u32 y] (0, 0) hO.out rfl (by simp [Value.oneCell']) (by unfold maxLen; omega) (by omega) hsz rfl rfl ?_); intro v' w1 hown' hb' _)
        rw [← hpx.out] at hown'
        have hO' := hid hown'
        have hB' := hid (hB.out.trans hb')
        clear hown' hb'
        go_roundw
        case rel => exact ⟨k + 1, _, by omega, rfl, by go_num, hO'.out, hB'.out⟩
        case measure => simp [intOf]; omega
      · have e1 : lF n f k = mU 0 k := by simp [lF, hin]
        have e2 : lH n h k = mV 0 := by simp [lH, hin]
        simp only [e1, e2] at hpx
        have h87 := hid (fun W => mark87 0 k (by omega) (by omega) W)
        generalize mU 0 k = x at *
        generalize mV 0 = y at *
        clear e1 e2
        go_wp2_with fail
        refine (h87.out wr).mono ?_
        rintro e w1 ⟨rfl, hg⟩
        have hO1 := hid (own_mono hO.out (grown_below hg) (Nat.le_refl _))
        have hB1 := hid (hB.out.trans ((grown_below hg).mono hsz))
        have hsz1 := hB1.out.size
        clear hg
        go_wp2_with (at_builtin; go_must (refine wpList_append_new rfl _ _ 53 rfl w.heap.size 59 59 (.agg #[.int .u32 0, .int .u32 0]) 2 8 1 Try.underlying53 (by kernel_rfl) rfl (by decide) _ k _ [.int .u32 x, .int .u32 y] (0, 0) hO1.out rfl (by simp [Value.oneCell']) (by unfold maxLen; omega) (by omega) hsz1 rfl rfl ?_); intro v' w2 hown' hb' _)
        rw [← hpx.out] at hown'
        have hO' := hid hown'
        have hB' := hid (hB1.out.trans hb')
        clear hown' hb'
        go_roundw
        case rel => exact ⟨k + 1, _, by omega, rfl, by go_num, hO'.out, hB'.out⟩
        case measure => simp [intOf]; omega
    · obtain rfl : k = n + 64 := by omega
      go_wp2_with fail
      go_ret
      exact ⟨_, rfl, hO.out, hB.out⟩

set_option maxHeartbeats 1000000 in
theorem kept84 (a1 ao : Option Addr) (g b off n c1 c : Nat) (ha1 : a1 = some ⟨g, 0, none⟩) (hao : n = 0 ∨ ao = some ⟨b, off, none⟩) (f h : Nat → Int) (w : World) (hn : n ≤ 10000000)
    (hcell : ∀ i, i < n → w.cell? ⟨b, off + i * 2, none⟩ = some (.int .u32 (f i)) ∧ w.cell? ⟨b, off + i * 2 + 1, none⟩ = some (.int .u32 (h i)))
    (h1 : ∀ i, i < n + 64 → w.cell? ⟨g, i * 2, none⟩ = some (.int .u32 (lF n f i)) ∧ w.cell? ⟨g, i * 2 + 1, none⟩ = some (.int .u32 (lH n h i))) :
    Calls Try.prog 84 #[.slice a1 (n + 64) c1, .slice ao n c] w fun e w' => e = .returned (.bool true) ∧ Below w.heap.size w w' := by
  have h82 := hid (lent82 ao b off n c hao f h w (by omega) hcell)
  have hc1 := hid h1
  clear hcell h1
  subst ha1
  go_enter Try.func84, Try.ntmps84
  go_wp2_with fail
  refine h82.out.mono ?_
  rintro e w1 ⟨v, rfl, ho, hb⟩
  obtain ⟨g2, c2, hv, -⟩ := own_shape ho (by omega)
  subst hv
  have hO := hid ho
  have hB := hid hb
  clear ho hb
  go_wp2_with fail
  have h48 := same48 (some ⟨g, 0, none⟩) (some ⟨g2, 0, none⟩) g g2 (n + 64) c1 c2 (.inr rfl) (.inr rfl) (lF n f) (lH n h) w1 (by omega)
    (fun i hi => ⟨(hB.out.cell (World.block_lt_of_cell? w _ (hc1.out i hi).1)).trans (hc1.out i hi).1, (hB.out.cell (World.block_lt_of_cell? w _ (hc1.out i hi).2)).trans (hc1.out i hi).2⟩)
    (fun i hi => ⟨(hO.out.cellAt (i * 2) (by omega)).trans (pairsV_get _ _ _ i hi).1, (hO.out.cellAt (i * 2 + 1) (by omega)).trans (pairsV_get _ _ _ i hi).2⟩)
  refine h48.mono ?_
  clear h48
  rintro e w2 ⟨rfl, q, rfl⟩
  go_wp2_with fail
  go_ret
  exact ⟨rfl, below_drewN' hB.out q⟩
end Go.Proofs.Ytdhicfolchpmhaa

namespace Go.Proofs.Ytdhicfolchpmhaa
open Go.RowKit
set_option linter.unusedVariables false
set_option linter.unusedSimpArgs false

set_option maxHeartbeats 1000000 in
set_option maxRecDepth 100000 in
theorem mark85 (k j : Nat) (hk : k ≤ 1000000000) (hj : j ≤ 1000000000) (w : World) : Calls Try.prog 85 #[.int .i64 k, .int .i64 j] w fun e w' => e = .returned (.int .u32 (mU k j)) ∧ w = w' := by
  go_enter Try.func85, Try.ntmps85
  go_wp2_with fail
  go_ret
  exact ⟨rfl, rfl⟩

def lentW (l : List Int) : List Int := l ++ (List.range 64).map (fun i : Nat => mU 0 i)
theorem lentW_len (l : List Int) : (lentW l).length = l.length + 64 := by simp [lentW]
theorem mU_bd (k j : Nat) : 0 ≤ mU k j ∧ mU k j ≤ 4294967295 := by unfold mU; omega

set_option maxHeartbeats 1000000 in
theorem lent43 (ao : Option Addr) (n cap : Nat) (l : List Int) (w : World) (hn : n = l.length) (hl : l.length ≤ 100000000) (hi : Ints .u32 w ao l) :
    Calls Try.prog 43 #[.slice ao n cap] w fun e w' => ∃ v, e = .returned v ∧ w'.ownsRow w.heap.size 24 1 v (l.length + 64) ((lentW l).map (Value.int .u32)) ∧ Below w.heap.size w w' := by
  subst hn
  obtain ⟨b, off, hao, hcell⟩ := hi.at
  have hC := hid hcell.out
  clear hi hcell
  go_enter Try.func43, Try.ntmps43
  go_wp2_with fail
  go_loopw [3, 4] (fun v i wr => ∃ (k : Nat) (v0 : Value), k ≤ l.length ∧ v0 = v ∧ i = .int .i64 k ∧ wr.ownsRow w.heap.size 24 1 v0 k ((l.take k).map (Value.int .u32)) ∧ Below w.heap.size w wr) (fun _ i _ => l.length - (intOf i).toNat)
  case atStart => exact ⟨0, _, Nat.zero_le _, rfl, rfl, World.ownsRow_nil _ _ 24 1, Below.refl _ _⟩
  case round =>
    obtain ⟨k, v, hk, rfl, rfl, ho, hb⟩ := hrel
    have hO := hid ho
    have hB := hid hb
    have hsz := hb.size
    clear ho hb
    by_cases hlt : k < l.length
    · rcases hao with h0 | rfl
      · omega
      have hc : wr.cell? ⟨b, off + k, none⟩ = some (.int .u32 (l.getD k 0)) := (hB.out.cell (World.block_lt_of_cell? w _ (hC.out k hlt))).trans (hC.out k hlt)
      have ht := hid (take_snoc l k 0 hlt)
      generalize l.getD k 0 = x at *
      go_wp2_with (at_builtin; go_must (refine wpList_append_new rfl _ _ 52 rfl w.heap.size 24 24 (.int .u32 0) 1 4 1 Try.underlying52 (by kernel_rfl) rfl (by decide) _ k _ [.int .u32 x] (0, 0) hO.out rfl (by simp [Value.oneCell']) (by unfold maxLen; omega) (by omega) hsz rfl rfl ?_); intro v' w1 hown' hb' _)
      have hO' : Hid (w1.ownsRow w.heap.size 24 1 v' (k + 1) ((l.take (k + 1)).map (Value.int .u32))) := by
        unfold Hid
        rw [ht.out, List.map_append]
        exact hown'
      have hB' := hid (hB.out.trans hb')
      clear hown' hb'
      go_roundw
      case rel => exact ⟨k + 1, _, by omega, rfl, by go_num, hO'.out, hB'.out⟩
      case measure => simp [intOf]; omega
    · obtain rfl : k = l.length := by omega
      have hO1 : Hid (wr.ownsRow w.heap.size 24 1 v (l.length + 0) ((l ++ (List.range 0).map (fun i : Nat => mU 0 i)).map (Value.int .u32))) := by
        have h := hO.out
        rw [List.take_length] at h
        simpa [Hid] using h
      clear hO
      go_wp2_with fail
      go_loopw [3, 5] (fun v i wr => ∃ (m : Nat) (v0 : Value), m ≤ 64 ∧ v0 = v ∧ i = .int .i64 m ∧ wr.ownsRow w.heap.size 24 1 v0 (l.length + m) ((l ++ (List.range m).map (fun i : Nat => mU 0 i)).map (Value.int .u32)) ∧ Below w.heap.size w wr) (fun _ i _ => 64 - (intOf i).toNat)
      case atStart => exact ⟨0, _, by omega, rfl, rfl, hO1.out, hB.out⟩
      case round =>
        clear hO1 hB hsz
        obtain ⟨m, v, hm, rfl, rfl, ho, hb⟩ := hrel
        have hO := hid ho
        have hB := hid hb
        have hsz := hb.size
        clear ho hb
        by_cases hlt2 : m < 64
        · have h85 := hid (fun W => mark85 0 m (by omega) (by omega) W)
          have ht := hid (range_snoc (fun i : Nat => mU 0 i) m)
          generalize hx : mU 0 m = x at *
          clear hx
          go_wp2_with (first | (go_at_call 85; go_must (refine (h85.out _).mono ?_); rintro e w' ⟨rfl, rfl⟩) | (at_builtin; go_must (refine wpList_append_new rfl _ _ 52 rfl w.heap.size 24 24 (.int .u32 0) 1 4 1 Try.underlying52 (by kernel_rfl) rfl (by decide) _ (l.length + m) _ [.int .u32 x] (0, 0) hO.out rfl (by simp [Value.oneCell']) (by unfold maxLen; omega) (by omega) hsz rfl rfl ?_); intro v' w1 hown' hb' _))
          have hO' : Hid (w1.ownsRow w.heap.size 24 1 v' (l.length + (m + 1)) ((l ++ (List.range (m + 1)).map (fun i : Nat => mU 0 i)).map (Value.int .u32))) := by
            unfold Hid
            rw [ht.out, ← List.append_assoc, List.map_append (l₁ := l ++ _)]
            exact hown'
          have hB' := hid (hB.out.trans hb')
          clear hown' hb'
          go_roundw
          case rel => exact ⟨m + 1, _, by omega, rfl, by go_num, hO'.out, hB'.out⟩
          case measure => simp [intOf]; omega
        · obtain rfl : m = 64 := by omega
          go_wp2_with fail
          go_ret
          exact ⟨_, rfl, hO.out, hB.out⟩
set_option maxHeartbeats 1000000 in
theorem kept45 (ao : Option Addr) (n cap : Nat) (bo : Option Addr) (m cap2 : Nat) (l : List Int) (w : World) (hn : n = (lentW l).length) (hm : m = l.length) (hl : l.length ≤ 100000000) (hi : Ints .u32 w ao (lentW l)) (hj : Ints .u32 w bo l) :
    Calls Try.prog 45 #[.slice ao n cap, .slice bo m cap2] w fun e w' => e = .returned (.bool true) ∧ ∃ q, w' = w.drewN q := by
  rw [lentW_len] at hn
  subst hn hm
  obtain ⟨b1, off1, hao1, hc1⟩ := hi.at
  obtain ⟨b2, off2, hao2, hc2⟩ := hj.at
  clear hi hj
  have hL := lentW_len l
  have hLL := hid hL
  rcases hao1 with hn1 | rfl
  · omega
  have hfull : Hid (∀ i, i < l.length + 64 → w.cell? ⟨b1, off1 + i, none⟩ = some (.int .u32 ((lentW l).getD i 0))) := fun i hi => hc1.out i (by omega)
  clear hc1 hL
  have hne : ((↑(l.length + 64) : Int) != (l.length : Int) + 64) = false := by rw [bne_eq_false_iff_eq]; omega
  rcases hao2 with hn2 | rfl
  all_goals
    go_enter Try.func45, Try.ntmps45
    go_wp2
    go_loopw [5] (fun i wr => ∃ k q : Nat, k ≤ l.length ∧ i = .int .i64 k ∧ wr = w.drewN q) (fun i _ => l.length - (intOf i).toNat)
    case atStart => exact ⟨0, 0, Nat.zero_le _, rfl, rfl⟩
    case round =>
      obtain ⟨k, q, hk, rfl, rfl⟩ := hrel
      by_cases hlt : k < l.length
      · first
        | omega
        | have hcell1 := hfull.out k (by omega)
          have hcell2 := hc2.out k hlt
          have hx1 : (k : Int) < (l.length : Int) + 64 := by omega
          have hx2 : (k : Int) < (l.length : Int) := by omega
          have hxy : (lentW l).getD k 0 = l.getD k 0 := by unfold lentW; simp [List.getD, List.getElem?_append, hlt]
          rw [hxy] at hcell1
          have hb : ((l.getD k 0) != (l.getD k 0)) = false := bne_eq_false_iff_eq.2 rfl
          clear hxy
          generalize l.getD k 0 = x at *
          go_wp2_with fail
          go_quiet (fail)
          go_wp2_with fail
          go_roundw
          case rel => exact ⟨k + 1, q + nq, by omega, by go_num, by simp⟩
          case measure => simp [intOf]; omega
      · go_wp2_with fail
        go_loopw [6] (fun i wr => ∃ j q : Nat, j ≤ 64 ∧ i = .int .i64 j ∧ wr = w.drewN q) (fun i _ => 64 - (intOf i).toNat)
        case atStart => exact ⟨0, q, Nat.zero_le _, rfl, rfl⟩
        case round =>
          obtain ⟨j, q2, hj, rfl, hw2⟩ := hrel
          have hW2 := hid hw2
          clear hw2
          by_cases hlt2 : j < 64
          · have hcell1 := hfull.out (l.length + j) (by omega)
            have hx1 : (l.length : Int) + (j : Int) < (l.length : Int) + 64 := by omega
            have hxy : (lentW l).getD (l.length + j) 0 = mU 0 j := by unfold lentW; simp [List.getD, List.getElem?_append, hlt2]
            rw [hxy] at hcell1
            have hcell3 : wr.cell? ⟨b1, off1 + (l.length + j), none⟩ = some (.int .u32 (mU 0 j)) := by rw [hW2.out]; exact hcell1
            clear hcell1
            have hb : ((mU 0 j) != (mU 0 j)) = false := bne_eq_false_iff_eq.2 rfl
            clear hxy
            have hI : IntKind.i64.wrap ((l.length : Int) + (j : Int)) = (l.length : Int) + (j : Int) := by
              exact IntWalk.i64_in _ (by omega)
            have hT : ((l.length : Int) + (j : Int)).toNat = l.length + j := by omega
            have hG : 0 ≤ (l.length : Int) + (j : Int) := by omega
            have hx3 : (j : Int) < 64 := by omega
            go_wp2_with fail
            go_quiet ((go_at_call 85; exact quiet_eq (mark85 0 j (by omega) (by omega) _)))
            go_wp2_with fail
            go_roundw
            case rel => exact ⟨j + 1, q2 + nq, by omega, by go_num, by rw [hW2.out]; simp⟩
            case measure => simp [intOf]; omega
          · go_wp2_with fail
            go_ret
            exact ⟨rfl, q2, hW2.out⟩

end Go.Proofs.Ytdhicfolchpmhaa

namespace Go.Proofs.Ytdhicfolchpmhaa
open Go.RowKit
set_option linter.unusedVariables false
set_option linter.unusedSimpArgs false

set_option maxHeartbeats 1000000 in
theorem cutNo46 (ao : Option Addr) (n cap : Nat) (a q : Int) (w : World) (hn : n ≤ 100000000) (ha : 0 ≤ a ∧ a ≤ 4294967295) (hq : 0 ≤ q ∧ q ≤ 4294967295) (hno : (n : Int) < a + q) :
    Calls Try.prog 46 #[.slice ao n cap, .agg #[.int .u32 a, .int .u32 q]] w fun e w' => e = .returned (.tuple #[.slice none 0 0, .int .i64 20]) ∧ w.grownBy w' none := by
  have h81 := hid (fun W => end81 a q W ha hq)
  have hwn : IntKind.u64.wrap (n : Int) = n := by rw [IntKind.wrap_u64]; omega
  have hlt : ((n : Int) < a + q) = True := eq_true hno
  clear ha hq hno
  go_enter Try.func46, Try.ntmps46
  go_wp2_with fail
  refine (h81.out _).mono ?_
  rintro e w1 ⟨rfl, hg⟩
  have hG := hid (grown_trans (World.grownBy_alloc w _ none) hg)
  clear hg
  go_wp2_with fail
  go_ret2
  exact ⟨rfl, hG.out⟩

set_option maxHeartbeats 1000000 in
theorem cut46 (ao : Option Addr) (n cap : Nat) (l : List Int) (a q : Nat) (w : World) (hn : n = l.length) (hl : l.length ≤ 100000000) (hi : Ints .u8 w ao l) (hle : a + q ≤ l.length) :
    Calls Try.prog 46 #[.slice ao n cap, .agg #[.int .u32 a, .int .u32 q]] w fun e w' => ∃ v, e = .returned (.tuple #[v, .int .i64 0]) ∧ w'.ownsRow w.heap.size 5 1 v q (((l.drop a).take q).map (Value.int .u8)) ∧ Below w.heap.size w w' := by
  subst hn
  have hA : (0 : Int) ≤ a ∧ (a : Int) ≤ 4294967295 := by omega
  have hQ : (0 : Int) ≤ q ∧ (q : Int) ≤ 4294967295 := by omega
  have h81 := hid (fun W => end81 a q W hA hQ)
  have hwn : IntKind.u64.wrap (l.length : Int) = l.length := by rw [IntKind.wrap_u64]; omega
  have hlt : ((l.length : Int) < (a : Int) + q) = False := eq_false (by omega)
  obtain ⟨b, off, hao, hcell⟩ := hi.at
  have hC := hid hcell.out
  clear hi hcell
  go_enter Try.func46, Try.ntmps46
  go_wp2_with fail
  refine (h81.out _).mono ?_
  rintro e w1 ⟨rfl, hg⟩
  have hx0 := hid (show w1.cell? ⟨w.heap.size, 0, none⟩ = some (.int .u32 a) from hg.cell (by simp) (by simp))
  have hx1 := hid (show w1.cell? ⟨w.heap.size, 1, none⟩ = some (.int .u32 q) from hg.cell (by simp) (by simp))
  have hG := hid (grown_below (grown_trans (World.grownBy_alloc w _ none) hg))
  have hC1 := hid (fun i (h : i < l.length) => (hG.out.cell (World.block_lt_of_cell? w _ (hC.out i h))).trans (hC.out i h))
  clear hg
  go_wp2_with fail
  clear hlt hwn
  go_loopw [6, 7] (fun v i wr => ∃ (k : Nat) (v0 : Value), k ≤ q ∧ v0 = v ∧ i = .int .i64 k ∧ wr.ownsRow w1.heap.size 5 1 v0 k (((l.drop a).take k).map (Value.int .u8)) ∧ Below w1.heap.size w1 wr) (fun _ i _ => q - (intOf i).toNat)
  case atStart => exact ⟨0, _, Nat.zero_le _, rfl, rfl, World.ownsRow_nil _ _ 5 1, Below.refl _ _⟩
  case round =>
    obtain ⟨k, v, hk, rfl, rfl, ho, hb⟩ := hrel
    have hO := hid ho
    have hB := hid hb
    have hsz := hb.size
    have y0 := (hb.cell (World.block_lt_of_cell? w1 _ hx0.out)).trans hx0.out
    have y1 := (hb.cell (World.block_lt_of_cell? w1 _ hx1.out)).trans hx1.out
    clear ho hb
    have hwq : IntKind.i64.wrap (q : Int) = q := IntWalk.i64_in _ (by omega)
    have hwa : IntKind.i64.wrap (a : Int) = a := IntWalk.i64_in _ (by omega)
    by_cases hlt : k < q
    · rcases hao with h0 | rfl
      · omega
      have hc : wr.cell? ⟨b, off + (a + k), none⟩ = some (.int .u8 (l.getD (a + k) 0)) := (hB.out.cell (World.block_lt_of_cell? w1 _ (hC1.out (a + k) (by omega)))).trans (hC1.out (a + k) (by omega))
      have ht : Hid ((l.drop a).take (k + 1) = (l.drop a).take k ++ [l.getD (a + k) 0]) := by
        have h := take_snoc (l.drop a) k 0 (by rw [List.length_drop]; omega)
        have e : (l.drop a).getD k 0 = l.getD (a + k) 0 := by simp [List.getD, List.getElem?_drop]
        rw [e] at h
        exact h
      have hs : IntKind.i64.wrap ((a : Int) + k) = (a : Int) + k := IntWalk.i64_in _ (by omega)
      have hT : ((a : Int) + (k : Int)).toNat = a + k := by omega
      have hg0 : 0 ≤ (a : Int) + (k : Int) := by omega
      have hg1 : (a : Int) + (k : Int) < (l.length : Int) := by omega
      generalize l.getD (a + k) 0 = x at *
      go_wp2_with (at_builtin; go_must (refine wpList_append_new rfl _ _ 23 rfl w1.heap.size 5 5 (.int .u8 0) 1 1 1 Try.underlying23 (by kernel_rfl) rfl (by decide) _ k _ [.int .u8 x] (0, 0) hO.out rfl (by simp [Value.oneCell']) (by unfold maxLen; omega) (by omega) hsz rfl rfl ?_); intro v' w2 hown' hb' _)
      have hO' : Hid (w2.ownsRow w1.heap.size 5 1 v' (k + 1) (((l.drop a).take (k + 1)).map (Value.int .u8))) := by
        unfold Hid
        rw [ht.out, List.map_append]
        exact hown'
      have hB' := hid (hB.out.trans hb')
      clear hown' hb'
      go_roundw
      case rel => exact ⟨k + 1, _, by omega, rfl, by go_num, hO'.out, hB'.out⟩
      case measure => simp [intOf]; omega
    · obtain rfl : k = q := by omega
      go_wp2_with fail
      go_ret2
      exact ⟨_, rfl, own_base hO.out hG.out.size, hG.out.trans (hB.out.mono hG.out.size)⟩
end Go.Proofs.Ytdhicfolchpmhaa

namespace Go.Proofs.Ytdhicfolchpmhaa
open Go.RowKit
set_option linter.unusedVariables false
set_option linter.unusedSimpArgs false

theorem below_grown {w w' : World} (h : Below w.heap.size w w') : w.grownBy w' none := ⟨h.os, h.tape, h.output, h.size, fun k hk _ => h.block k hk⟩
set_option maxHeartbeats 1000000 in
theorem cutNo47 (ao : Option Addr) (n cap : Nat) (a q : Int) (w : World) (hn : n ≤ 100000000) (ha : 0 ≤ a ∧ a ≤ 4294967295) (hq : 0 ≤ q ∧ q ≤ 4294967295) (hno : (n : Int) < a + q) :
    Calls Try.prog 47 #[.slice ao n cap, .agg #[.int .u32 a, .int .u32 q]] w fun e w' => e = .returned (.tuple #[.slice none 0 0, .int .i64 20]) ∧ w.grownBy w' none := by
  have h77 := hid (fun W => end77 a q W ha hq)
  have hwn : IntKind.u64.wrap (n : Int) = n := by rw [IntKind.wrap_u64]; omega
  have hlt : ((n : Int) < a + q) = True := eq_true hno
  clear ha hq hno
  go_enter Try.func47, Try.ntmps47
  go_wp2_with fail
  refine (h77.out _).mono ?_
  rintro e w1 ⟨rfl, hg⟩
  have hG := hid (grown_trans (World.grownBy_alloc w _ none) hg)
  clear hg
  go_wp2_with fail
  go_ret2
  exact ⟨rfl, hG.out⟩

set_option maxHeartbeats 2000000 in
theorem cut47 (g cap : Nat) (l : List Int) (a q : Nat) (w : World) (hl : l.length ≤ 100000000) (hcap : l.length < cap) (hi : Ints .u8 w (some ⟨g, 0, none⟩) l) (hle : a + q ≤ l.length) :
    Calls Try.prog 47 #[.slice (some ⟨g, 0, none⟩) l.length cap, .agg #[.int .u32 a, .int .u32 q]] w fun e w' => ∃ v, e = .returned (.tuple #[v, .int .i64 0]) ∧ w'.ownsRow w.heap.size 5 1 v q (((l.drop a).take q).map (Value.int .u8)) ∧ w.grownBy w' none := by
  have hA : (0 : Int) ≤ a ∧ (a : Int) ≤ 4294967295 := by omega
  have hQ : (0 : Int) ≤ q ∧ (q : Int) ≤ 4294967295 := by omega
  have h77 := hid (fun W => end77 a q W hA hQ)
  have hwn : IntKind.u64.wrap (l.length : Int) = l.length := by rw [IntKind.wrap_u64]; omega
  have hlt : ((l.length : Int) < (a : Int) + q) = False := eq_false (by omega)
  have hI := hid hi
  clear hi
  have hLen : Hid (((l.drop a).take q).length = q) := by unfold Hid; rw [List.length_take, List.length_drop]; omega
  have hSub : Hid (∀ W, Below w.heap.size w W → Ints .u8 W (some ⟨g, a, none⟩) ((l.drop a).take q)) := fun W hb => by
    refine ⟨fun x hx => hI.out.wf x (List.mem_of_mem_drop (List.mem_of_mem_take hx)), .inr ⟨g, a, rfl, fun i hi => ?_⟩⟩
    rw [hLen.out] at hi
    rcases (hI.out.mono hb).cell with h | ⟨b1, o1, h1, h2⟩
    · omega
    · simp only [Option.some.injEq, Addr.mk.injEq, and_true] at h1
      obtain ⟨rfl, rfl⟩ := h1
      have := h2 (a + i) (by omega)
      rw [Nat.zero_add] at this
      rw [this]
      simp [List.getD, List.getElem?_take, List.getElem?_drop, hi]
  go_enter Try.func47, Try.ntmps47
  go_wp2_with fail
  refine (h77.out _).mono ?_
  rintro e w1 ⟨rfl, hg⟩
  have hx0 := hid (show w1.cell? ⟨w.heap.size, 0, none⟩ = some (.int .u32 a) from hg.cell (by simp) (by simp))
  have hx1 := hid (show w1.cell? ⟨w.heap.size, 1, none⟩ = some (.int .u32 q) from hg.cell (by simp) (by simp))
  have hG := hid (grown_trans (World.grownBy_alloc w _ none) hg)
  clear hg
  have hd := hid (grownBy_drew' w1 none)
  have h77S := hid (fun (W : World) (h : w1.grownBy W none ∧ W.cell? ⟨w.heap.size, 0, none⟩ = some (.int .u32 (a : Int)) ∧ W.cell? ⟨w.heap.size, 1, none⟩ = some (.int .u32 (q : Int))) =>
    (h77.out W).mono (R' := fun e w' => e = .returned (.int .u64 ((a : Int) + q)) ∧ (w1.grownBy w' none ∧ w'.cell? ⟨w.heap.size, 0, none⟩ = some (.int .u32 (a : Int)) ∧ w'.cell? ⟨w.heap.size, 1, none⟩ = some (.int .u32 (q : Int)))) (fun e w' h2 => ⟨h2.1, grown_trans h.1 h2.2, h2.2.cell h.2.1 (by simp), h2.2.cell h.2.2 (by simp)⟩))
  have h86 := hid (fun (W : World) (h : w1.grownBy W none ∧ W.cell? ⟨w.heap.size, 0, none⟩ = some (.int .u32 (a : Int)) ∧ W.cell? ⟨w.heap.size, 1, none⟩ = some (.int .u32 (q : Int))) =>
    (clone_any (some ⟨g, a, none⟩) q (cap - a) ((l.drop a).take q) W hLen.out.symm (by rw [hLen.out]; omega) (hSub.out W (grown_below (grown_trans hG.out h.1)))).mono
      (R' := fun e w' => ∃ v, e = .returned v ∧ w'.ownsRow w.heap.size 5 1 v q (((l.drop a).take q).map (Value.int .u8)) ∧ (w1.grownBy w' none ∧ w'.cell? ⟨w.heap.size, 0, none⟩ = some (.int .u32 (a : Int)) ∧ w'.cell? ⟨w.heap.size, 1, none⟩ = some (.int .u32 (q : Int)))) (fun e w' ⟨v, h1, h2, h3⟩ => ⟨v, h1, own_base h2 (grown_trans hG.out h.1).size, grown_trans h.1 (below_grown h3), (below_grown h3).cell h.2.1 (by simp), (below_grown h3).cell h.2.2 (by simp)⟩))
  have hT1 : ((a : Int) + (q : Int)).toNat = a + q := by omega
  have hT2 : (a : Int) ≤ (a : Int) + (q : Int) := by omega
  have hT3 : (a : Int) + (q : Int) ≤ (cap : Int) := by omega
  have hT4 : ¬ cap = a := by omega
  have hT5 : a + q - a = q := by omega
  go_wp2_with fail
  clear hlt hwn
  refine wp_region_held_drew (S := (fun w' => w1.grownBy w' none ∧ w'.cell? ⟨w.heap.size, 0, none⟩ = some (.int .u32 (a : Int)) ∧ w'.cell? ⟨w.heap.size, 1, none⟩ = some (.int .u32 (q : Int)))) (by kernel_rfl) ⟨hd.out, by simpa using hx0.out, by simpa using hx1.out⟩ (fun hHeld => ?_)
  refine wpAnyH_take (i := 0) (v := ?_) (by simp only [List.getElem?_toArray, List.getElem?_cons_succ, List.getElem?_cons_zero]; rfl) (by kernel_rfl) (by kernel_rfl) (by kernel_rfl) (by intro _ _ _ h; exact h) (Or.inl ⟨by rfl, ?_⟩) (by assumption) ?_
  rotate_left
  · intro w' hSw; (try dsimp only at hSw); go_simp; (try with_reducible rfl)
  try simp only [Act.put, List.setIfInBounds_toArray, List.set_cons_zero, List.set_cons_succ]
  refine wpAnyH_take (i := 1) (v := ?_) (by simp only [List.getElem?_toArray, List.getElem?_cons_succ, List.getElem?_cons_zero]; rfl) (by kernel_rfl) (by kernel_rfl) (by kernel_rfl) (by intro _ _ _ h; exact h) (Or.inl ⟨by rfl, ?_⟩) (by assumption) ?_
  rotate_left
  · intro w' hSw; (try dsimp only at hSw); go_simp; (try with_reducible rfl)
  try simp only [Act.put, List.setIfInBounds_toArray, List.set_cons_zero, List.set_cons_succ]
  refine wpAnyH_take (i := 2) (v := ?_) (by simp only [List.getElem?_toArray, List.getElem?_cons_succ, List.getElem?_cons_zero]; rfl) (by kernel_rfl) (by kernel_rfl) (by kernel_rfl) (by intro _ _ _ h; exact h) (Or.inl ⟨by rfl, ?_⟩) (by assumption) ?_
  rotate_left
  · intro w' hSw; (try dsimp only at hSw); go_simp; (try with_reducible rfl)
  try simp only [Act.put, List.setIfInBounds_toArray, List.set_cons_zero, List.set_cons_succ]
  refine wpAnyH_take (i := 3) (v := ?_) (by simp only [List.getElem?_toArray, List.getElem?_cons_succ, List.getElem?_cons_zero]; rfl) (by kernel_rfl) (by kernel_rfl) (by kernel_rfl) (by intro _ _ _ h; exact h) (Or.inl ⟨by rfl, ?_⟩) (by assumption) ?_
  rotate_left
  · intro w' hSw; (try dsimp only at hSw); go_simp; (try with_reducible rfl)
  try simp only [Act.put, List.setIfInBounds_toArray, List.set_cons_zero, List.set_cons_succ]
  refine wpAnyH_ready (rs := [4]) (by kernel_rfl) (by simp) ?_
  refine AllReadyH.cons (by simp only [List.getElem?_toArray, List.getElem?_cons_succ, List.getElem?_cons_zero]; rfl) (fun K hK => ?_) AllReadyH.nil
  go_simp
  go_at_call 77
  refine (h77S.out _ hHeld).mono ?_
  rintro e w2 ⟨rfl, hk⟩
  clear hHeld
  go_wp2_with fail
  refine hK.out _ _ hk (fun hHeld => ?_)
  clear hK K hk
  try simp only [Act.put, List.setIfInBounds_toArray, List.set_cons_zero, List.set_cons_succ]
  refine wpAnyH_take (i := 5) (v := ?_) (by simp only [List.getElem?_toArray, List.getElem?_cons_succ, List.getElem?_cons_zero]; rfl) (by kernel_rfl) (by kernel_rfl) (by kernel_rfl) (by intro _ _ _ h; exact h) (Or.inl ⟨by rfl, ?_⟩) (by assumption) ?_
  rotate_left
  · intro w' hSw; (try dsimp only at hSw); go_simp; (try with_reducible rfl)
  try simp only [Act.put, List.setIfInBounds_toArray, List.set_cons_zero, List.set_cons_succ]
  refine wpAnyH_ready (rs := [6]) (by kernel_rfl) (by simp) ?_
  refine AllReadyH.cons (by simp only [List.getElem?_toArray, List.getElem?_cons_succ, List.getElem?_cons_zero]; rfl) (fun K hK => ?_) AllReadyH.nil
  go_simp
  go_at_call 86
  refine (h86.out _ hHeld).mono ?_
  rintro e w2 ⟨v2, rfl, ho2, hk⟩
  have hO2 := hid ho2
  clear hHeld ho2
  go_wp2_with fail
  refine hK.out _ _ hk (fun hHeld => ?_)
  clear hK K hk
  try simp only [Act.put, List.setIfInBounds_toArray, List.set_cons_zero, List.set_cons_succ]
  refine wpAnyH_take (i := 7) (v := ?_) (by simp only [List.getElem?_toArray, List.getElem?_cons_succ, List.getElem?_cons_zero]; rfl) (by kernel_rfl) (by kernel_rfl) (by kernel_rfl) (by intro _ _ _ h; exact h) (Or.inl ⟨by rfl, ?_⟩) (by assumption) ?_
  rotate_left
  · intro w' hSw; (try dsimp only at hSw); go_simp; (try with_reducible rfl)
  try simp only [Act.put, List.setIfInBounds_toArray, List.set_cons_zero, List.set_cons_succ]
  refine wpAnyH_take (i := 8) (v := ?_) (by simp only [List.getElem?_toArray, List.getElem?_cons_succ, List.getElem?_cons_zero]; rfl) (by kernel_rfl) (by kernel_rfl) (by kernel_rfl) (by intro _ _ _ h; exact h) (Or.inl ⟨by rfl, ?_⟩) (by assumption) ?_
  rotate_left
  · intro w' hSw; (try dsimp only at hSw); go_simp; (try with_reducible rfl)
  try simp only [Act.put, List.setIfInBounds_toArray, List.set_cons_zero, List.set_cons_succ]
  refine wpAnyH_done (by kernel_rfl) ?_ _
  have hg5 := hHeld.1
  clear hHeld
  have hG5 := hid (grown_trans hG.out hg5)
  clear hg5
  go_wp2_with fail
  go_ret2
  exact ⟨_, rfl, hO2.out, hG5.out⟩
end Go.Proofs.Ytdhicfolchpmhaa
