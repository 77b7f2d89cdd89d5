/- The laid tables: a start that meets the condition; what the condition gives the walk. -/
import Derived.Test.YtjkgffehafaolaaDoorExU
import Derived.Test.YtjkgffehafaolaaDoorFrame
import Derived.Test.YtjkgffehafaolaaDoorShelf
import Derived.Test.YtjkgffehafaolaaDoorTie
import Derived.Test.YtjkgffehafaolaaDoorCards
import Derived.Lib.LaidTab
import Derived.Lib.LaidU8
import Derived.LaidMore
import Derived.Stop.Joined
import Derived.SevenTiedAt
namespace Go.Proofs.YtjkgffehafaolaaDoor
open Go.RowKit
set_option linter.unusedVariables false
set_option linter.unusedSimpArgs false

set_option maxRecDepth 100000
theorem laidVars_snoc {P : Program} {w : World} {n : String} {d : DataW Unit} {g : Nat} {t : TypeId} {cs : Array Value} {fuel : Nat} (hg : P.globalNamed n = some g) (ht : (P.globals[g]?).map (·.type) = some t) (hv : w.var? P n = some cs)
    (hr : DataW.trod (fun _ => ()) P w 0 (fun _ => true) false fuel t cs.toList = some (d, [])) : ∀ {l : List (String × DataW Unit)} {ps : List MemPlace}, DataW.LaidVars P w l ps → DataW.LaidVars P w (l ++ [(n, d)]) (ps ++ MemPlace.row ⟨g, 0, none⟩ cs.size)
  | [], ps, h => by
    have h : ps = [] := h
    subst h
    exact ⟨g, t, cs, fuel, [], [], hg, ht, hv, hr, rfl, by simp⟩
  | (m, e) :: l, ps, h => by
    obtain ⟨g', t', cs', fuel', p, q, h1, h2, h3, h4, h5, h6⟩ := h
    exact ⟨g', t', cs', fuel', p, _, h1, h2, h3, h4, laidVars_snoc hg ht hv hr h5, by rw [h6]; simp⟩
theorem laidMet_snoc {P : Program} {w : World} {l : List (String × DataW Unit)} {n : String} {d : DataW Unit} {g : Nat} {t : TypeId} {cs : Array Value} {ty : TypeId} (fuel fuel2 : Nat)
    (h : (DataW.laidRun P w fuel (l.map (·.1))).map (·.1) = some l) (hr : (DataW.laidRun P w fuel (l.map (·.1))).map (fun x => decide x.2.Nodup && laidRowsB P w x.2 && x.2.all (fun p => p.block != g)) = some true)
    (hg : P.globalNamed n = some g) (ht : (P.globals[g]?).map (·.type) = some t) (hv : w.var? P n = some cs) (hrd : DataW.trod (fun _ => ()) P w 0 (fun _ => true) false fuel2 t cs.toList = some (d, []))
    (hh : w.heap[g]? = some (.cells cs ty (0, 0))) (hc : ∀ x ∈ cs.toList, ∀ u v, x ≠ .iface u v) : laidMet P (l ++ [(n, d)]) w := by
  cases hx : DataW.laidRun P w fuel (l.map (·.1)) with
  | none => simp [hx] at h
  | some x =>
    obtain ⟨l', ps⟩ := x
    simp only [hx, Option.map_some, Option.some.injEq] at h hr
    subst h
    simp only [Bool.and_eq_true] at hr
    obtain ⟨⟨h1, h2⟩, h3⟩ := hr
    have h1 := of_decide_eq_true h1
    have hb : ∀ p ∈ ps, p.block ≠ g := fun p hp => by
      have := List.all_eq_true.1 h3 p hp
      simpa using this
    refine ⟨_, laidVars_snoc hg ht hv hrd (DataW.LaidVars_of_laidRun hx), ?_, ?_⟩
    · refine List.nodup_append.2 ⟨h1, ?_, ?_⟩
      · unfold MemPlace.row
        refine List.Pairwise.map _ (fun a b hab => ?_) List.nodup_range
        intro he
        simp at he
        exact hab he
      · intro a ha b hb' hab
        subst hab
        unfold MemPlace.row at hb'
        obtain ⟨i, -, hi⟩ := List.mem_map.1 hb'
        exact hb _ ha (by rw [← hi]; rfl)
    · intro b off hp
      rcases List.mem_append.1 hp with hp | hp
      · have := List.all_eq_true.1 h2 _ hp
        simp only [Bool.and_eq_true] at this
        obtain ⟨k1, k2⟩ := this
        refine ⟨?_, fun u v hcv => ?_⟩
        · split at k1
          · rename_i c t hh2
            exact ⟨c, t, hh2⟩
          · cases k1
        · rw [hcv] at k2
          exact Value.okWide_of_okWideB k2
      · unfold MemPlace.row at hp
        obtain ⟨i, -, hi⟩ := List.mem_map.1 hp
        have e : g = b := by simp at hi; exact hi.1
        subst e
        refine ⟨⟨_, _, hh⟩, fun u v hcv => ?_⟩
        unfold World.cell? at hcv
        rw [hh] at hcv
        have hm : Value.iface u v ∈ cs.toList := by
          have hcv : cs[off]? = some (.iface u v) := hcv
          rw [← Array.getElem?_toList] at hcv
          exact List.mem_of_getElem? hcv
        exact absurd rfl (hc _ hm u v)
abbrev laid8 : List (String × DataW Unit) := Rows.figureExactRow.laid
abbrev laid7 : List (String × DataW Unit) := Rows.figureExactRow.laid.take 7
def layP : Obj → Obj
  | .cells _ t frozen => .cells powCells.toArray t frozen
  | o => o
def layC (n : Nat) : Obj → Obj
  | .cells _ t frozen => .cells #[.slice (some ⟨n, 0, none⟩) Go.Pinned.cheatRows.length Go.Pinned.cheatRows.length] t frozen
  | o => o
def cheatCells : Obj := .cells (Go.Pinned.cheatRows.flatMap fun x => [Value.int .i64 (x.1 : Int), Value.string ⟨x.2.toArray⟩]).toArray 130
/-- A start: the heap that the door's run leaves, and the two pinned tables. -/
noncomputable def laidWorld (os : Os) : World :=
  { World.doorLaid Tryd.prog 600 os with heap := (((World.doorLaid Tryd.prog 600 os).heap.modify 6 layP).modify 7 (layC (World.doorLaid Tryd.prog 600 os).heap.size)).push cheatCells }
theorem met7a (os : Os) (args : Array Value) : (DataW.laidRun Tryd.prog ((laidWorld os).forCall (fun _ _ => 0) ⟨#[], args, []⟩).memory 8 (laid7.map (·.1))).map (·.1) = some laid7 := by kernel_rfl
theorem met7b (os : Os) (args : Array Value) : (DataW.laidRun Tryd.prog ((laidWorld os).forCall (fun _ _ => 0) ⟨#[], args, []⟩).memory 8 (laid7.map (·.1))).map (fun x => decide x.2.Nodup && laidRowsB Tryd.prog ((laidWorld os).forCall (fun _ _ => 0) ⟨#[], args, []⟩).memory x.2 && x.2.all (fun p => p.block != 6)) = some true := by kernel_rfl
theorem pow_heap (os : Os) (args : Array Value) : ((laidWorld os).forCall (fun _ _ => 0) ⟨#[], args, []⟩).memory.heap[6]? = some (.cells powCells.toArray 124 (0, 0)) := by kernel_rfl
theorem pow_ints : ∀ x ∈ powCells.toArray.toList, ∀ u v, x ≠ Value.iface u v := by
  intro x hx u v e
  subst e
  simp [powCells] at hx
theorem met8 (os : Os) (args : Array Value) : laidMet Tryd.prog laid8 ((laidWorld os).forCall (fun _ _ => 0) ⟨#[], args, []⟩).memory :=
  laidMet_snoc (l := laid7) (n := "internal/strconv.pow10Tab") (g := 6) (t := 124) (cs := powCells.toArray) 8 8 (met7a os args) (met7b os args) (by kernel_rfl) (by kernel_rfl) (by kernel_rfl) (trod_pow _) (pow_heap os args) pow_ints

end Go.Proofs.YtjkgffehafaolaaDoor
