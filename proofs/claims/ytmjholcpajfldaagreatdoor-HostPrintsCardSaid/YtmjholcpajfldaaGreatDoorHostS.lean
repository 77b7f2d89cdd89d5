/- Walks: two lists of bytes that are the same; a name laid into bytes. No condition. -/
import Derived.Test.YtmjholcpajfldaaGreatDoorHostR
namespace Go.Proofs.YtmjholcpajfldaaGreatDoor
open Go.RowKit
set_option linter.unusedVariables false
set_option linter.unusedSimpArgs false

set_option maxRecDepth 100000

theorem Ho.keep30 {w w' : World} {B h mb q : Nat} {cv : Value} {con : List UInt8} {vs : List (ByteArray × Value)} {sd ck : Int} {cs : Array Value} (hH : Ho w B h cv con mb vs sd ck) (hbx : Bx w q cs 30) (hg : w.grownBy w' (some q)) : Ho w' B h cv con mb vs sd ck := by
  have hr := row_ne_box hH.own hbx (by decide)
  refine hH.kpt (T := fun b => b = q) (Kpt.gr hg (Nat.le_refl _) fun k e => by simp only [Option.some.injEq] at e; exact .inl e.symm) fun b hb e => ?_
  rcases hb with hb | hb | hb
  · have h1 := hH.bx
    unfold Bx at h1 hbx
    rw [← hb, e, hbx] at h1
    simp at h1
  · obtain ⟨es, c, h1, -⟩ := hH.mp
    unfold Bx at hbx
    rw [← hb, e, hbx] at h1
    cases h1
  · rw [e] at hb
    exact hr hb
set_option maxHeartbeats 4000000 in
theorem same11 (n ca cb ba bb : Nat) (l : List Int) (hl : l.length = n) (hn : n ≤ 1048576) (w : World) (ha : ∀ j, j < n → w.cell? ⟨ba, j, none⟩ = some (.int .u8 (l.getD j 0))) (hb : ∀ j, j < n → w.cell? ⟨bb, j, none⟩ = some (.int .u8 (l.getD j 0))) :
    Calls Tryz.prog 11 #[.slice (some ⟨ba, 0, none⟩) n ca, .slice (some ⟨bb, 0, none⟩) n cb] w fun e w' => e = .returned (.bool true) ∧ Below w.heap.size w w' := by
  have hA := hid ha
  have hB := hid hb
  clear ha hb
  go_enter Tryz.func11, Tryz.ntmps11
  go_wp2_with fail
  go_loopw [5] (fun i wr => ∃ (k m : Nat), k ≤ n ∧ i = .int .i64 k ∧ wr = w.drewN m) (fun i _ => n - (intOf i).toNat)
  case atStart => exact ⟨0, 0, by omega, rfl, rfl⟩
  case round =>
    obtain ⟨k, m, hk, rfl, rfl⟩ := hrel
    by_cases hlt : k < n
    · have d1 := hA.out k hlt
      have d2 := hB.out k hlt
      generalize l.getD k 0 = x at *
      have d1' : (w.drewN m).cell? ⟨ba, k, none⟩ = some (.int .u8 x) := d1
      have d2' : (w.drewN m).cell? ⟨bb, k, none⟩ = some (.int .u8 x) := d2
      have hGQ := hid (show ∀ j, (w.drewN m).drewN j = w.drewN (m + j) from fun j => by simp)
      clear d1 d2
      generalize w.drewN m = wz at *
      go_wp2_with fail
      go_quiet ((fail))
      go_wp2_with fail
      go_roundw
      case rel => exact ⟨k + 1, m + nq, by omega, by go_num, hGQ.out nq⟩
      case measure => simp [intOf]; omega
    · obtain rfl : k = n := by omega
      go_wp2_with fail
      go_ret
      exact ⟨rfl, below_drewN' (Below.refl _ _) m⟩
/-- a name's first k bytes, noughts behind them -/
def padK (s : ByteArray) (k : Nat) : List UInt8 := s.data.toList.take k ++ List.replicate (256 - k) 0
theorem padK_len (s : ByteArray) (k : Nat) (h1 : k ≤ s.size) (h2 : k ≤ 256) : (padK s k).length = 256 := by
  have : s.data.toList.length = s.size := rfl
  simp [padK]
  omega
theorem padK_succ (s : ByteArray) (k : Nat) (h1 : k < s.size) (h2 : k < 256) : (bv (padK s k)).toArray.set! k (.int .u8 (s[k].toNat : Int)) = (bv (padK s (k + 1))).toArray := by
  have hl : s.data.toList.length = s.size := rfl
  have hg : s.data.toList[k]'(by omega) = s[k] := rfl
  have e1 : 256 - k = (256 - (k + 1)) + 1 := by omega
  have e2 : s.data.toList.take (k + 1) = s.data.toList.take k ++ [s[k]] := by
    rw [List.take_succ_eq_append_getElem (by omega), hg]
  apply Array.toList_inj.1
  simp only [Array.set!_eq_setIfInBounds, Array.toList_setIfInBounds]
  unfold padK bv
  rw [e2, e1, List.replicate_succ]
  simp only [List.map_append, List.map_cons, List.map_nil, List.append_assoc, List.cons_append, List.nil_append]
  rw [List.set_append_right _ _ (by simp; omega)]
  simp only [List.length_map, List.length_take]
  rw [show k - min k s.data.toList.length = 0 by omega]
  rfl
theorem txt_pad (s : ByteArray) (h1 : s.size ≤ 200) (h2 : s.data.toList.all (· != 0) = true) : txt (padK s s.size) = s.data.toList := by
  have hl : s.data.toList.length = s.size := rfl
  unfold padK
  rw [List.take_of_length_le (by omega), show 256 - s.size = (255 - s.size) + 1 by omega, List.replicate_succ]
  unfold txt
  generalize s.data.toList = l at h2
  clear hl h1
  induction l with
  | nil => simp
  | cons a r ih =>
    simp only [List.all_cons, Bool.and_eq_true] at h2
    rw [List.cons_append, List.takeWhile_cons, if_pos h2.1, ih h2.2]

end Go.Proofs.YtmjholcpajfldaaGreatDoor
