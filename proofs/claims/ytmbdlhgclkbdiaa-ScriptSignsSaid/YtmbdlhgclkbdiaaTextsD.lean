/- Walks: Signs, SameTexts, ScriptSigns. -/
import Derived.Test.YtmbdlhgclkbdiaaTextsB
namespace Go.Proofs.Ytmbdlhgclkbdiaa
open Go.RowKit
set_option linter.unusedVariables false
set_option linter.unusedSimpArgs false

def signsL : List ByteArray := [⟨#[40]⟩, ⟨#[41]⟩, ⟨#[123]⟩, ⟨#[125]⟩, ⟨#[91]⟩, ⟨#[93]⟩, ⟨#[44]⟩, ⟨#[59]⟩, ⟨#[61]⟩, ⟨#[43]⟩, ⟨#[45]⟩, ⟨#[42]⟩, ⟨#[47]⟩, ⟨#[37]⟩, ⟨#[38]⟩, ⟨#[124]⟩, ⟨#[94]⟩, ⟨#[126]⟩, ⟨#[33]⟩, ⟨#[60]⟩, ⟨#[62]⟩, ⟨#[43, 61]⟩, ⟨#[45, 61]⟩, ⟨#[42, 61]⟩, ⟨#[47, 61]⟩, ⟨#[37, 61]⟩, ⟨#[38, 61]⟩, ⟨#[124, 61]⟩, ⟨#[94, 61]⟩, ⟨#[60, 60]⟩, ⟨#[62, 62]⟩, ⟨#[60, 60, 61]⟩, ⟨#[62, 62, 61]⟩, ⟨#[61, 61]⟩, ⟨#[33, 61]⟩, ⟨#[60, 61]⟩, ⟨#[62, 61]⟩, ⟨#[38, 38]⟩, ⟨#[124, 124]⟩]

def SignsGot (w w' : World) (e : Ending) : Prop := ∃ g, e = .returned (.slice (some ⟨g, 0, none⟩) 39 39) ∧ w'.ownsRow w.heap.size 9 1 (.slice (some ⟨g, 0, none⟩) 39 39) 39 (signsL.map Value.string) ∧ w.grownBy w' none ∧ Below w.heap.size w w'

theorem signs_got (w : World) : SignsGot w (w.alloc (.cells (signsL.map Value.string).toArray 9)) (.returned (.slice (some ⟨w.heap.size, 0, none⟩) 39 39)) :=
  ⟨_, rfl, own_of_block (cur := signsL.map Value.string) (Nat.le_refl _) (heap_alloc_new w _) (by decide) (List.take_of_length_le (by decide)) (by decide) (by decide), World.grownBy_alloc _ _ _, (Below.refl _ _).alloc (Nat.le_refl _) _⟩

set_option maxHeartbeats 1000000 in
theorem signs_10 (w : World) : Calls Try.prog 10 #[] w fun e w' => SignsGot w w' e := by
  go_enter Try.func10, Try.ntmps10
  go_wp2_with fail
  go_ret
  exact signs_got w
set_option maxHeartbeats 1000000 in
theorem signs_30 (w : World) : Calls Try.prog 30 #[] w fun e w' => SignsGot w w' e := by
  go_enter Try.func30, Try.ntmps30
  go_wp2_with fail
  go_ret
  exact signs_got w
theorem signs_11 (w : World) : Calls Try.prog 11 #[] w fun e w' => SignsGot w w' e := by
  go_enter Try.func11, Try.ntmps11
  go_wp2_with fail
  refine (signs_30 w).mono ?_
  rintro e w1 ⟨g, rfl, h⟩
  go_wp2_with fail
  go_ret
  exact ⟨g, rfl, h⟩

set_option maxHeartbeats 1000000 in
theorem same_texts (g1 g2 n m cap cap2 : Nat) (l : List ByteArray) (w : World) (hn : n = l.length) (hm : m = l.length) (hl : l.length ≤ 1000000) (h1 : ∀ i, i < l.length → w.cell? ⟨g1, i, none⟩ = some (.string (l.getD i ⟨#[]⟩))) (h2 : ∀ i, i < l.length → w.cell? ⟨g2, i, none⟩ = some (.string (l.getD i ⟨#[]⟩))) :
    Calls Try.prog 12 #[.slice (some ⟨g1, 0, none⟩) n cap, .slice (some ⟨g2, 0, none⟩) m cap2] w fun e w' => e = .returned (.bool true) ∧ ∃ q, w' = w.drewN q := by
  subst hn hm
  have hc1 := hid h1
  have hc2 := hid h2
  clear h1 h2
  go_enter Try.func12, Try.ntmps12
  go_wp2
  go_loopw [5] (fun i wr => ∃ k q : Nat, k ≤ l.length ∧ i = .int .i64 k ∧ wr = w.drewN q) (fun i _ => l.length - (intOf i).toNat)
  case atStart => exact ⟨0, 0, Nat.zero_le _, rfl, rfl⟩
  case round =>
    obtain ⟨k, q, hk, rfl, rfl⟩ := hrel
    by_cases hlt : k < l.length
    · have hcell1 := hc1.out k hlt
      have hcell2 := hc2.out k hlt
      have hx1 : (k : Int) < (l.length : Int) := by omega
      generalize l.getD k ⟨#[]⟩ = x at *
      go_wp2_with fail
      go_quiet (fail)
      go_wp2_with fail
      go_roundw
      case rel => exact ⟨k + 1, q + nq, by omega, by go_num, by simp⟩
      case measure => simp [intOf]; omega
    · go_wp2_with fail
      go_ret
      exact ⟨rfl, q, rfl⟩
end Go.Proofs.Ytmbdlhgclkbdiaa
