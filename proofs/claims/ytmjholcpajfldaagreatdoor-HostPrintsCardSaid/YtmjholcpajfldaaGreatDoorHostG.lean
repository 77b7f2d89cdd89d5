/- Walks: the calls' closures; a word told; the call int. No condition. -/
import Derived.Test.YtmjholcpajfldaaGreatDoorHostF
namespace Go.Proofs.YtmjholcpajfldaaGreatDoor
open Go.RowKit
set_option linter.unusedVariables false
set_option linter.unusedSimpArgs false

set_option maxRecDepth 100000

def callsV (p : Value) : List Value := [.func (.func 37) #[p] #[], .func (.func 38) #[p] #[], .func (.func 39) #[p] #[], .func (.func 40) #[p] #[], .func (.func 41) #[p] #[], .func (.func 42) #[p] #[], .func (.func 43) #[p] #[], .func (.func 44) #[p] #[], .func (.func 45) #[p] #[], .func (.func 46) #[p] #[], .func (.func 47) #[p] #[], .func (.func 48) #[p] #[], .func (.func 49) #[p] #[], .func (.func 50) #[p] #[], .func (.func 51) #[p] #[], .func (.func 52) #[p] #[], .func (.func 53) #[p] #[], .func (.func 54) #[p] #[], .func (.func 55) #[p] #[], .func (.func 56) #[p] #[], .func (.func 57) #[p] #[], .func (.func 58) #[p] #[], .func (.func 59) #[p] #[], .func (.func 60) #[p] #[]]
theorem callsV_at (p : Value) (k : Nat) (hk : k < 24) : (callsV p)[k]? = some (.func (.func (37 + k)) #[p] #[]) := by
  match k, hk with
  | 0, _ => exact rfl
  | 1, _ => exact rfl
  | 2, _ => exact rfl
  | 3, _ => exact rfl
  | 4, _ => exact rfl
  | 5, _ => exact rfl
  | 6, _ => exact rfl
  | 7, _ => exact rfl
  | 8, _ => exact rfl
  | 9, _ => exact rfl
  | 10, _ => exact rfl
  | 11, _ => exact rfl
  | 12, _ => exact rfl
  | 13, _ => exact rfl
  | 14, _ => exact rfl
  | 15, _ => exact rfl
  | 16, _ => exact rfl
  | 17, _ => exact rfl
  | 18, _ => exact rfl
  | 19, _ => exact rfl
  | 20, _ => exact rfl
  | 21, _ => exact rfl
  | 22, _ => exact rfl
  | 23, _ => exact rfl
  | n + 24, h => exact absurd h (by omega)
set_option maxHeartbeats 4000000 in
theorem calls24 (h : Nat) (w : World) : Calls Tryz.prog 24 #[.pointer (some ⟨h, 0, none⟩)] w fun e w' => e = .returned (.agg (callsV (.pointer (some ⟨h, 0, none⟩))).toArray) ∧ Below w.heap.size w w' := by
  go_enter Tryz.func24, Tryz.ntmps24
  go_wp2_with (first
    | (refine wpList_build rfl 71 _ rfl (callsV (.pointer (some ⟨h, 0, none⟩))).toArray (by kernel_rfl) ?_)
    | (refine wpList_store_fresh rfl 71 _ _ rfl _ (callsV (.pointer (some ⟨h, 0, none⟩))).toArray rfl rfl (by kernel_rfl) rfl (by kernel_rfl) ?_))
  (try simp only [Exit.inBlock, Exit.then])
  refine bodyPost_ret (results_cell_row rfl _ _ w.heap.size _ (callsV (.pointer (some ⟨h, 0, none⟩))).toArray _ _ rfl (heap_alloc_new w _) Tryz.underlying71 rfl (by kernel_rfl)) rfl ?_
  exact ⟨rfl, by (repeat (first | exact Below.refl _ _ | refine Below.drew ?_ | refine Below.alloc ?_ (by simp <;> omega) _))⟩

end Go.Proofs.YtmjholcpajfldaaGreatDoor
