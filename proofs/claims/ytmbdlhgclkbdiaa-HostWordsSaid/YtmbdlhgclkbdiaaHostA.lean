/- Walks: the host's names. -/
import Derived.OwnWalk
import Derived.Deep.RegionHeld3
import Derived.Deep.WholeRow
import Derived.Test.YtmbdlhgclkbdiaaKitQ
import Derived.Test.YtmbdlhgclkbdiaaProg
namespace Go.Proofs.Ytmbdlhgclkbdiaa
open Go.RowKit
set_option linter.unusedVariables false
set_option linter.unusedSimpArgs false

def hostN : List ByteArray := [⟨#[112, 114, 105, 110, 116]⟩, ⟨#[112, 117, 116]⟩, ⟨#[105, 110, 116]⟩, ⟨#[104, 101, 120]⟩, ⟨#[102, 108, 111, 97, 116]⟩, ⟨#[99, 108, 101, 97, 114]⟩, ⟨#[108, 101, 110, 103, 116, 104]⟩, ⟨#[114, 117, 110, 101, 115]⟩, ⟨#[112, 97, 114, 115, 101]⟩, ⟨#[112, 97, 114, 115, 101, 102]⟩, ⟨#[103, 101, 116]⟩, ⟨#[115, 101, 116]⟩, ⟨#[115, 101, 101, 100]⟩, ⟨#[114, 97, 110, 100, 111, 109]⟩, ⟨#[99, 108, 111, 99, 107]⟩, ⟨#[115, 113, 114, 116]⟩, ⟨#[102, 108, 111, 111, 114]⟩, ⟨#[97, 98, 115]⟩, ⟨#[97, 100, 100]⟩, ⟨#[109, 117, 108]⟩, ⟨#[100, 105, 118]⟩, ⟨#[116, 117, 114, 110]⟩, ⟨#[102, 97, 114]⟩, ⟨#[119, 97, 118, 101]⟩]
def hostR : List Int := [1, 1, 1, 1, 1, 0, 1, 1, 2, 2, 2, 2, 1, 1, 0, 1, 1, 1, 3, 3, 3, 3, 1, 3]
def nm (k : Nat) : ByteArray := hostN.getD k ⟨#[]⟩
def ar (k : Nat) : Int := hostR.getD k 0
def hostV : List Value := [.string ⟨#[112, 114, 105, 110, 116]⟩, .int .i64 1, .string ⟨#[112, 117, 116]⟩, .int .i64 1, .string ⟨#[105, 110, 116]⟩, .int .i64 1, .string ⟨#[104, 101, 120]⟩, .int .i64 1, .string ⟨#[102, 108, 111, 97, 116]⟩, .int .i64 1, .string ⟨#[99, 108, 101, 97, 114]⟩, .int .i64 0, .string ⟨#[108, 101, 110, 103, 116, 104]⟩, .int .i64 1, .string ⟨#[114, 117, 110, 101, 115]⟩, .int .i64 1, .string ⟨#[112, 97, 114, 115, 101]⟩, .int .i64 2, .string ⟨#[112, 97, 114, 115, 101, 102]⟩, .int .i64 2, .string ⟨#[103, 101, 116]⟩, .int .i64 2, .string ⟨#[115, 101, 116]⟩, .int .i64 2, .string ⟨#[115, 101, 101, 100]⟩, .int .i64 1, .string ⟨#[114, 97, 110, 100, 111, 109]⟩, .int .i64 1, .string ⟨#[99, 108, 111, 99, 107]⟩, .int .i64 0, .string ⟨#[115, 113, 114, 116]⟩, .int .i64 1, .string ⟨#[102, 108, 111, 111, 114]⟩, .int .i64 1, .string ⟨#[97, 98, 115]⟩, .int .i64 1, .string ⟨#[97, 100, 100]⟩, .int .i64 3, .string ⟨#[109, 117, 108]⟩, .int .i64 3, .string ⟨#[100, 105, 118]⟩, .int .i64 3, .string ⟨#[116, 117, 114, 110]⟩, .int .i64 3, .string ⟨#[102, 97, 114]⟩, .int .i64 1, .string ⟨#[119, 97, 118, 101]⟩, .int .i64 3]
structure RowsOk (A : Array Value) : Prop where
  size : A.size = 48
  at1 : ∀ k, k < 24 → A[k * 2]? = some (.string (nm k))
  at2 : ∀ k, k < 24 → A[k * 2 + 1]? = some (.int .i64 (ar k))
theorem all24 {p : Nat → Prop} [DecidablePred p] (h : (List.range 24).all (fun k => decide (p k)) = true) : ∀ k, k < 24 → p k := fun k hk => by
  have := List.all_eq_true.1 h k (List.mem_range.2 hk)
  simpa using this
theorem rows_ok : RowsOk hostV.toArray := ⟨rfl, fun k hk => by
  match k, hk with
  | 0, _ => exact rfl
  | 1, _ => exact rfl
  | 2, _ => exact rfl
  | 3, _ => exact rfl
  | 4, _ => exact rfl
  | 5, _ => exact rfl
  | 6, _ => exact rfl
  | 7, _ => exact rfl
  | 8, _ => exact rfl
  | 9, _ => exact rfl
  | 10, _ => exact rfl
  | 11, _ => exact rfl
  | 12, _ => exact rfl
  | 13, _ => exact rfl
  | 14, _ => exact rfl
  | 15, _ => exact rfl
  | 16, _ => exact rfl
  | 17, _ => exact rfl
  | 18, _ => exact rfl
  | 19, _ => exact rfl
  | 20, _ => exact rfl
  | 21, _ => exact rfl
  | 22, _ => exact rfl
  | 23, _ => exact rfl
  | n + 24, h => exact absurd h (by omega), fun k hk => by
  match k, hk with
  | 0, _ => exact rfl
  | 1, _ => exact rfl
  | 2, _ => exact rfl
  | 3, _ => exact rfl
  | 4, _ => exact rfl
  | 5, _ => exact rfl
  | 6, _ => exact rfl
  | 7, _ => exact rfl
  | 8, _ => exact rfl
  | 9, _ => exact rfl
  | 10, _ => exact rfl
  | 11, _ => exact rfl
  | 12, _ => exact rfl
  | 13, _ => exact rfl
  | 14, _ => exact rfl
  | 15, _ => exact rfl
  | 16, _ => exact rfl
  | 17, _ => exact rfl
  | 18, _ => exact rfl
  | 19, _ => exact rfl
  | 20, _ => exact rfl
  | 21, _ => exact rfl
  | 22, _ => exact rfl
  | 23, _ => exact rfl
  | n + 24, h => exact absurd h (by omega)⟩
theorem hostS_at (k : Nat) (h : k < 24) : (hostN.map Value.string)[k]? = some (.string (nm k)) := by
  simp [nm, List.getD, List.getElem?_eq_getElem (show k < hostN.length from h)]

/-- A whole row into the block that was made last. -/
theorem wpList_store_fresh {P : Program} {w : World} {ops : Array Oper} {rest : List Oper} {o : Oper} {a : Act} {Q : Exit → Act → World → Prop} (hgd : o.guard = none) (ty : TypeId) (x y : Operand) (ho : o.op = .store ty x y) (c c' : Array Value)
    (hx : a.eval x = .pointer (some ⟨w.heap.size, 0, none⟩)) (hy : a.eval y = .agg c') (hi : (P.info? ty).map (·.size) = some c'.size) (hs : c.size = c'.size) (h1 : c'.all (·.oneCell') = true)
    (h : wpList P ops Q rest (a.put o.dst undef) (w.alloc (.cells c' ty))) : wpList P ops Q (o :: rest) a (w.alloc (.cells c ty)) := by
  refine wpList_plain hgd fun K hK => ?_
  unfold Oper.wp execOp
  simp only [ho, hx, hy, run_storeAt_new w ty c c' hi hs h1, Sem.run_bind, Sem.run_pure, Result.andThen_ok]
  exact hK _ _ h

set_option maxHeartbeats 1000000 in
set_option maxRecDepth 10000 in
theorem rows32 (w : World) : Calls Try.prog 32 #[] w fun e w' => ∃ A : Array Value, e = .returned (.agg A) ∧ RowsOk A ∧ w.grownBy w' none := by
  go_enter Try.func32, Try.ntmps32
  go_wp2_with (first
    | (refine wpList_build rfl 54 _ rfl #[.string ⟨#[112, 114, 105, 110, 116]⟩, .int .i64 1] (by kernel_rfl) ?_)
    | (refine wpList_build rfl 54 _ rfl #[.string ⟨#[112, 117, 116]⟩, .int .i64 1] (by kernel_rfl) ?_)
    | (refine wpList_build rfl 54 _ rfl #[.string ⟨#[105, 110, 116]⟩, .int .i64 1] (by kernel_rfl) ?_)
    | (refine wpList_build rfl 54 _ rfl #[.string ⟨#[104, 101, 120]⟩, .int .i64 1] (by kernel_rfl) ?_)
    | (refine wpList_build rfl 54 _ rfl #[.string ⟨#[102, 108, 111, 97, 116]⟩, .int .i64 1] (by kernel_rfl) ?_)
    | (refine wpList_build rfl 54 _ rfl #[.string ⟨#[99, 108, 101, 97, 114]⟩, .int .i64 0] (by kernel_rfl) ?_)
    | (refine wpList_build rfl 54 _ rfl #[.string ⟨#[108, 101, 110, 103, 116, 104]⟩, .int .i64 1] (by kernel_rfl) ?_)
    | (refine wpList_build rfl 54 _ rfl #[.string ⟨#[114, 117, 110, 101, 115]⟩, .int .i64 1] (by kernel_rfl) ?_)
    | (refine wpList_build rfl 54 _ rfl #[.string ⟨#[112, 97, 114, 115, 101]⟩, .int .i64 2] (by kernel_rfl) ?_)
    | (refine wpList_build rfl 54 _ rfl #[.string ⟨#[112, 97, 114, 115, 101, 102]⟩, .int .i64 2] (by kernel_rfl) ?_)
    | (refine wpList_build rfl 54 _ rfl #[.string ⟨#[103, 101, 116]⟩, .int .i64 2] (by kernel_rfl) ?_)
    | (refine wpList_build rfl 54 _ rfl #[.string ⟨#[115, 101, 116]⟩, .int .i64 2] (by kernel_rfl) ?_)
    | (refine wpList_build rfl 54 _ rfl #[.string ⟨#[115, 101, 101, 100]⟩, .int .i64 1] (by kernel_rfl) ?_)
    | (refine wpList_build rfl 54 _ rfl #[.string ⟨#[114, 97, 110, 100, 111, 109]⟩, .int .i64 1] (by kernel_rfl) ?_)
    | (refine wpList_build rfl 54 _ rfl #[.string ⟨#[99, 108, 111, 99, 107]⟩, .int .i64 0] (by kernel_rfl) ?_)
    | (refine wpList_build rfl 54 _ rfl #[.string ⟨#[115, 113, 114, 116]⟩, .int .i64 1] (by kernel_rfl) ?_)
    | (refine wpList_build rfl 54 _ rfl #[.string ⟨#[102, 108, 111, 111, 114]⟩, .int .i64 1] (by kernel_rfl) ?_)
    | (refine wpList_build rfl 54 _ rfl #[.string ⟨#[97, 98, 115]⟩, .int .i64 1] (by kernel_rfl) ?_)
    | (refine wpList_build rfl 54 _ rfl #[.string ⟨#[97, 100, 100]⟩, .int .i64 3] (by kernel_rfl) ?_)
    | (refine wpList_build rfl 54 _ rfl #[.string ⟨#[109, 117, 108]⟩, .int .i64 3] (by kernel_rfl) ?_)
    | (refine wpList_build rfl 54 _ rfl #[.string ⟨#[100, 105, 118]⟩, .int .i64 3] (by kernel_rfl) ?_)
    | (refine wpList_build rfl 54 _ rfl #[.string ⟨#[116, 117, 114, 110]⟩, .int .i64 3] (by kernel_rfl) ?_)
    | (refine wpList_build rfl 54 _ rfl #[.string ⟨#[102, 97, 114]⟩, .int .i64 1] (by kernel_rfl) ?_)
    | (refine wpList_build rfl 54 _ rfl #[.string ⟨#[119, 97, 118, 101]⟩, .int .i64 3] (by kernel_rfl) ?_)
    | (refine wpList_build rfl 55 _ rfl hostV.toArray (by kernel_rfl) ?_)
    | (refine wpList_store_fresh rfl 55 _ _ rfl _ hostV.toArray rfl rfl (by kernel_rfl) rfl (by kernel_rfl) ?_))
  (try simp only [Exit.inBlock, Exit.then])
  refine bodyPost_ret (results_cell_row rfl _ _ w.heap.size _ hostV.toArray _ _ rfl (heap_alloc_new w _) Try.underlying55 rfl (by kernel_rfl)) rfl ?_
  exact ⟨_, rfl, rows_ok, World.grownBy_alloc _ _ _⟩

end Go.Proofs.Ytmbdlhgclkbdiaa
