/- Walks: reserved words, names of the program. No condition. -/
import Derived.Test.YtecpkadjnecbiaaGreatDoorProg
import Derived.Test.YtecpkadjnecbiaaGreatDoorTokH
import Derived.WalkMore
namespace Go.Proofs.YtecpkadjnecbiaaGreatDoor
open Go.RowKit
set_option linter.unusedVariables false
set_option linter.unusedSimpArgs false

open Go.Shelf
attribute [local go_sem] Oper.semAt_some

def inList (L : List ByteArray) (x : ByteArray) : Bool := L.any fun y => x.toList == y.toList
set_option maxRecDepth 100000 in
set_option maxHeartbeats 1000000 in
theorem index82 (L : List ByteArray) (B : Nat) (x : ByteArray) (w : World) (hn : L.length ≤ 1000) (h : ∀ i (hi : i < L.length), w.cell? ⟨B, i, none⟩ = some (.string L[i])) :
    Calls Tryz.prog 82 #[.slice (some ⟨B, 0, none⟩) L.length L.length, .string x] w fun e w' => (∃ r : Int, e = .returned (.int .i64 r) ∧ decide (0 ≤ r) = inList L x) ∧ w' = w := by
  go_enter Tryz.func82, Tryz.ntmps82
  go_wp2_with fail
  go_loopw [8] (fun y wr => ∃ k : Nat, y = .int .i64 k ∧ k ≤ L.length ∧ (∀ j (hj : j < L.length), j < k → (x.toList == L[j].toList) = false) ∧ wr = w) (fun y _ => L.length - (intOf y).toNat)
  case atStart => exact ⟨0, rfl, Nat.zero_le _, fun j _ hj => by omega, rfl⟩
  case round =>
    obtain ⟨k, rfl, hk, hno, hw⟩ := hrel
    subst wr
    have hno' := hid hno
    clear hno
    by_cases hlt : k < L.length
    · have hc := h k hlt
      cases hq : x.toList == L[k].toList
      · have key : Hid (∀ j (hj : j < L.length), j < k + 1 → (x.toList == L[j].toList) = false) := hid (fun j hj hjk => by
          rcases Nat.lt_or_ge j k with h1 | h1
          · exact hno'.out j hj h1
          · have e : j = k := by omega
            subst e
            exact hq)
        go_wp2_with fail
        go_roundw
        case rel => exact ⟨k + 1, by go_num, by omega, key.out, trivial⟩
        case measure => simp [intOf]; omega
      · go_wp2_with fail
        go_ret
        refine ⟨⟨k, rfl, ?_⟩, rfl⟩
        have : inList L x = true := List.any_eq_true.2 ⟨L[k], List.getElem_mem _, hq⟩
        rw [this]
        simp
    · go_wp2_with fail
      go_ret
      refine ⟨⟨-1, rfl, ?_⟩, rfl⟩
      have : inList L x = false := List.any_eq_false.2 (fun y hy => by
        obtain ⟨j, hj, rfl⟩ := List.getElem_of_mem hy
        rw [hno'.out j hj (by omega)]
        simp)
      rw [this]
      rfl
theorem contains59 (L : List ByteArray) (B : Nat) (x : ByteArray) (w : World) (hn : L.length ≤ 1000) (h : ∀ i (hi : i < L.length), w.cell? ⟨B, i, none⟩ = some (.string L[i])) :
    Calls Tryz.prog 59 #[.slice (some ⟨B, 0, none⟩) L.length L.length, .string x] w fun e w' => e = .returned (.bool (inList L x)) ∧ w' = w := by
  have hcall := index82 L B x w hn h
  go_enter Tryz.func59, Tryz.ntmps59
  go_wp2_with fail
  refine hcall.mono ?_
  rintro e w2 ⟨⟨r, rfl, hr⟩, hw⟩
  subst w2
  go_wp2_with fail
  go_ret
  exact ⟨ret_bool (by rw [← hr]), rfl⟩
def resL : List ByteArray := [⟨#[118, 97, 114]⟩, ⟨#[105, 110, 116]⟩, ⟨#[102, 108, 111, 97, 116]⟩, ⟨#[104, 111, 115, 116]⟩, ⟨#[102, 117, 110, 99]⟩, ⟨#[111, 112, 101, 110]⟩, ⟨#[105, 102]⟩, ⟨#[101, 108, 115, 101]⟩, ⟨#[119, 104, 105, 108, 101]⟩, ⟨#[98, 114, 101, 97, 107]⟩, ⟨#[99, 111, 110, 116, 105, 110, 117, 101]⟩, ⟨#[114, 101, 116, 117, 114, 110]⟩]
set_option maxRecDepth 100000 in
theorem reserved57 (s : ByteArray) (w : World) : Calls Tryz.prog 57 #[.string s] w fun e w' => e = .returned (.bool (inList resL s)) ∧ Below w.heap.size w w' := by
  have hcall := contains59 resL w.heap.size s (w.alloc (.cells (resL.map Value.string).toArray 9 (0, 0))) (by decide) (fun i hi => by
    rw [World.cell?_alloc_mark]
    simp [hi])
  go_enter Tryz.func57, Tryz.ntmps57
  go_wp2_with fail
  refine hcall.mono ?_
  rintro e w2 ⟨rfl, hw⟩
  subst w2
  go_wp2_with fail
  go_ret
  exact ⟨rfl, (Below.refl _ _).alloc (Nat.le_refl _) _⟩

end Go.Proofs.YtecpkadjnecbiaaGreatDoor
