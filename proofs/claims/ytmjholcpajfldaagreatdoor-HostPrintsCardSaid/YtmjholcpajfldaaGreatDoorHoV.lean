/- The laid tables: a start that meets the condition, whole; what it gives the walk. No condition. -/
import Derived.Test.YtmjholcpajfldaaGreatDoorHoT
import Derived.Lib.SmallJoins
import Derived.Lib.ItoaNum
namespace Go.Proofs.YtmjholcpajfldaaGreatDoor
open Go.RowKit
set_option linter.unusedVariables false
set_option linter.unusedSimpArgs false

set_option maxRecDepth 100000
theorem pow_heap (os : Os) (args : Array Value) : ((laidWorld os).forCall (fun _ _ => 0) ⟨#[], args, []⟩).memory.heap[15]? = some (.cells powCells.toArray 334 (0, 0)) := by kernel_rfl
theorem pow_ints : ∀ x ∈ powCells.toArray.toList, ∀ u v, x ≠ Value.iface u v := by
  intro x hx u v e
  subst e
  simp [powCells] at hx
def firstCells : Array Value := (Go.Pinned.utf8FirstZ.map fun (n : Nat) => Value.int .u8 (n : Int)).toArray
theorem first_heap (os : Os) (args : Array Value) : ((laidWorld os).forCall (fun _ _ => 0) ⟨#[], args, []⟩).memory.heap[10]? = some (.cells firstCells 309 (0, 0)) := by kernel_rfl
theorem first_ints : ∀ x ∈ firstCells.toList, ∀ u v, x ≠ Value.iface u v := by
  intro x hx u v e
  subst e
  simp [firstCells] at hx
theorem trod_first (w : World) : DataW.trod (fun _ => ()) Tryz.prog w 0 (fun _ => true) false 8 309 firstCells.toList = some (Go.Pinned.utf8First, []) := by kernel_rfl
theorem met15 (os : Os) (args : Array Value) : laidMet Tryz.prog laid15 ((laidWorld os).forCall (fun _ _ => 0) ⟨#[], args, []⟩).memory := by
  have h1 := LMx.run (av := [15, 10]) 8 (metA os args) (metB os args)
  have h2 := LMx.ins (l1 := laidA) (l2 := []) (av' := [10]) (n := "internal/strconv.pow10Tab") (g := 15) (t := 334) (cs := powCells.toArray) 8 (by rw [List.append_nil]; exact h1) (by decide) (by decide) (by kernel_rfl) (by kernel_rfl) (by kernel_rfl) (trod_pow _) (pow_heap os args) pow_ints
  have h3 := LMx.ins (l1 := laidA ++ [("internal/strconv.pow10Tab", Go.Pinned.pow10Tab)]) (l2 := []) (av' := []) (n := "unicode/utf8.first") (g := 10) (t := 309) (cs := firstCells) 8 (by rw [List.append_nil]; exact h2) (by decide) (by decide) (by kernel_rfl) (by kernel_rfl) (by kernel_rfl) (trod_first _) (first_heap os args) first_ints
  exact h3.met
theorem door_met (os : Os) (args : Array Value) : laidMetH Tryz.prog laid15 ((laidWorld os).forCall (fun _ _ => 0) ⟨#[], args, []⟩).memory := by
  rw [MakeChecks.laidMetH_plain _ _ _ (by kernel_rfl)]
  exact met15 os args
theorem tabIs_of_reads {W : World} {name : String} {k : IntKind} {zs : List Int} {g : Nat} {t e : TypeId} {n : Nat} {d : DataW Unit} (hd : d = Lib.tabData k zs)
    (hg : Tryz.prog.globalNamed name = some g) (hty : (Tryz.prog.globals[g]?).map (·.type) = some t) (ht : Tryz.prog.underlying t = some (.array n e)) (he : Tryz.prog.underlying e = some (.int k)) (hce : Tryz.prog.cellsOf e = 1) (hct : Tryz.prog.cellsOf t = n)
    (h : Lib.VarReads Tryz.prog W name d) : Lib.TabIs Tryz.prog W name k zs := by
  subst hd
  obtain ⟨g', t', cs, fuel, p, hg', ht', hvar, hd⟩ := h
  obtain rfl := Option.some.inj (hg.symm.trans hg')
  obtain rfl := Option.some.inj (hty.symm.trans ht')
  unfold Lib.TabIs
  rw [hvar, ← Lib.cells_of_tab ht he hce hct hd]
theorem of_laid {W : World} (h : laidMetH Tryz.prog laid15 W) : ∀ w', Below W.heap.size W w' → Lib.TabIs Tryz.prog w' "internal/strconv.uint64pow10" .u64 Lib.pow10Tab := by
  rw [MakeChecks.laidMetH_plain _ _ _ (by kernel_rfl)] at h
  have hm : (("internal/strconv.uint64pow10", Rows.laid_internal_strconv_uint64pow10) : String × DataW Unit) ∈ laid15 := List.mem_of_getElem? (i := 8) rfl
  have h1 : Lib.TabIs Tryz.prog W "internal/strconv.uint64pow10" .u64 Lib.pow10Tab := tabIs_of_reads (g := 2) (t := 234) (e := 22) (n := 20) rfl (by kernel_rfl) (by kernel_rfl) (by kernel_rfl) (by kernel_rfl) (by kernel_rfl) (by kernel_rfl) (Lib.laidMet.reads h (n := "internal/strconv.uint64pow10") (d := Rows.laid_internal_strconv_uint64pow10) hm)
  exact fun w' hb => _root_.Go.Joins.tab_stays (g := 2) (by kernel_rfl) h1 hb (Nat.le_refl _)

end Go.Proofs.YtmjholcpajfldaaGreatDoor
