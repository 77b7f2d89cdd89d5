/- The laid tables: a start that meets the condition. No condition. -/
import Derived.Test.YtmjholcpajfldaaGreatDoorHoU
import Derived.Test.YtmjholcpajfldaaGreatDoorFrame
import Derived.Test.YtmjholcpajfldaaGreatDoorTie
import Derived.Test.YtmjholcpajfldaaGreatDoorCards
import Derived.Lib.LaidTab
import Derived.Lib.LaidU8
import Derived.LaidMore
import Derived.Stop.Joined
import Derived.SevenTiedAt
namespace Go.Proofs.YtmjholcpajfldaaGreatDoor
open Go.RowKit
set_option linter.unusedVariables false
set_option linter.unusedSimpArgs false

set_option maxRecDepth 100000
theorem laidVars_ins {P : Program} {w : World} {n : String} {d : DataW Unit} {g : Nat} {t : TypeId} {cs : Array Value} {fuel : Nat} (hg : P.globalNamed n = some g) (ht : (P.globals[g]?).map (·.type) = some t) (hv : w.var? P n = some cs)
    (hr : DataW.trod (fun _ => ()) P w 0 (fun _ => true) false fuel t cs.toList = some (d, [])) {l2 : List (String × DataW Unit)} : ∀ {l1 : List (String × DataW Unit)} {ps : List MemPlace}, DataW.LaidVars P w (l1 ++ l2) ps → ∃ ps', DataW.LaidVars P w (l1 ++ (n, d) :: l2) ps' ∧ ps'.Perm (MemPlace.row ⟨g, 0, none⟩ cs.size ++ ps)
  | [], ps, h => ⟨_, ⟨g, t, cs, fuel, [], ps, hg, ht, hv, hr, h, rfl⟩, by simp⟩
  | (m, e) :: l, ps, h => by
    obtain ⟨g', t', cs', fuel', p, q, h1, h2, h3, h4, h5, h6⟩ := h
    obtain ⟨q', i1, i2⟩ := laidVars_ins hg ht hv hr h5
    refine ⟨_, ⟨g', t', cs', fuel', p, q', h1, h2, h3, h4, i1, rfl⟩, ?_⟩
    rw [h6]
    generalize MemPlace.row ⟨g', 0, none⟩ cs'.size = A
    generalize MemPlace.row ⟨g, 0, none⟩ cs.size = R at *
    refine ((i2.append_left (A ++ p)).trans ?_)
    rw [← List.append_assoc, ← List.append_assoc]
    exact (List.perm_append_comm (l₁ := A ++ p) (l₂ := R)).append_right q
/-- the condition, with blocks that none of its places lie in -/
def LMx (P : Program) (w : World) (l : List (String × DataW Unit)) (av : List Nat) : Prop :=
  ∃ ps, DataW.LaidVars P w l ps ∧ ps.Nodup ∧ (∀ b off, MemPlace.cell b off ∈ ps → (∃ c t, w.heap[b]? = some (.cells c t (0, 0))) ∧ ∀ u v, w.cell? ⟨b, off, none⟩ = some (.iface u v) → Value.okWide P w .any 0 u v) ∧ ∀ p ∈ ps, p.block ∉ av
theorem LMx.run {P : Program} {w : World} {l : List (String × DataW Unit)} {av : List Nat} (fuel : Nat) (h : (DataW.laidRun P w fuel (l.map (·.1))).map (·.1) = some l)
    (hr : (DataW.laidRun P w fuel (l.map (·.1))).map (fun x => decide x.2.Nodup && laidRowsB P w x.2 && x.2.all (fun p => !av.contains p.block)) = some true) : LMx P w l av := by
  cases hx : DataW.laidRun P w fuel (l.map (·.1)) with
  | none => rw [hx] at h; cases h
  | some x =>
    obtain ⟨l', ps⟩ := x
    rw [hx] at h hr
    simp only [Option.map_some, Option.some.injEq] at h hr
    subst h
    simp only [Bool.and_eq_true] at hr
    obtain ⟨⟨h1, h2⟩, h3⟩ := hr
    refine ⟨ps, DataW.LaidVars_of_laidRun hx, of_decide_eq_true h1, fun b off hp => ?_, fun p hp => ?_⟩
    · have := List.all_eq_true.1 h2 _ hp
      simp only [Bool.and_eq_true] at this
      obtain ⟨k1, k2⟩ := this
      refine ⟨?_, fun u v hcv => ?_⟩
      · split at k1
        · rename_i c t hh2
          exact ⟨c, t, hh2⟩
        · cases k1
      · rw [hcv] at k2
        exact Value.okWide_of_okWideB k2
    · have := List.all_eq_true.1 h3 p hp
      simpa using this
theorem LMx.ins {P : Program} {w : World} {l1 l2 : List (String × DataW Unit)} {av av' : List Nat} {n : String} {d : DataW Unit} {g : Nat} {t : TypeId} {cs : Array Value} {ty : TypeId} (fuel2 : Nat)
    (h : LMx P w (l1 ++ l2) av) (hga : g ∈ av) (hav : ∀ x ∈ av', x ∈ av ∧ x ≠ g)
    (hg : P.globalNamed n = some g) (ht : (P.globals[g]?).map (·.type) = some t) (hv : w.var? P n = some cs) (hrd : DataW.trod (fun _ => ()) P w 0 (fun _ => true) false fuel2 t cs.toList = some (d, []))
    (hh : w.heap[g]? = some (.cells cs ty (0, 0))) (hc : ∀ x ∈ cs.toList, ∀ u v, x ≠ .iface u v) : LMx P w (l1 ++ (n, d) :: l2) av' := by
  obtain ⟨ps, hl, h1, h2, h3⟩ := h
  obtain ⟨ps', hl', hperm⟩ := laidVars_ins hg ht hv hrd hl
  have hrow : ∀ p ∈ MemPlace.row ⟨g, 0, none⟩ cs.size, p.block = g := fun p hp => by
    unfold MemPlace.row at hp
    obtain ⟨i, -, hi⟩ := List.mem_map.1 hp
    rw [← hi]
    rfl
  refine ⟨ps', hl', ?_, ?_, ?_⟩
  · rw [hperm.nodup_iff]
    refine (List.perm_append_comm.nodup_iff).1 ?_
    refine List.nodup_append.2 ⟨h1, ?_, ?_⟩
    · unfold MemPlace.row
      refine List.Pairwise.map _ (fun a b hab => ?_) List.nodup_range
      intro he
      simp at he
      exact hab he
    · intro a ha b hb' hab
      subst hab
      have := h3 _ ha
      rw [hrow _ hb'] at this
      exact this hga
  · intro b off hp
    rcases (List.mem_append.1 (hperm.mem_iff.1 hp)).symm with hp | hp
    · exact h2 b off hp
    · have e : g = b := (hrow _ hp).symm
      subst e
      refine ⟨⟨_, _, hh⟩, fun u v hcv => ?_⟩
      unfold World.cell? at hcv
      rw [hh] at hcv
      have hm : Value.iface u v ∈ cs.toList := by
        have hcv : cs[off]? = some (.iface u v) := hcv
        rw [← Array.getElem?_toList] at hcv
        exact List.mem_of_getElem? hcv
      exact absurd rfl (hc _ hm u v)
  · intro p hp hx
    rcases (List.mem_append.1 (hperm.mem_iff.1 hp)).symm with hp | hp
    · exact h3 p hp (hav _ hx).1
    · exact (hav _ hx).2 (hrow p hp)
theorem LMx.met {P : Program} {w : World} {l : List (String × DataW Unit)} {av : List Nat} (h : LMx P w l av) : laidMet P l w := by
  obtain ⟨ps, h1, h2, h3, -⟩ := h
  exact ⟨ps, h1, h2, h3⟩
abbrev laid15 : List (String × DataW Unit) := Rows.hostNoneRow.laid
abbrev laidA : List (String × DataW Unit) := Rows.hostNoneRow.laid.take 13
def layP : Obj → Obj
  | .cells _ t frozen => .cells powCells.toArray t frozen
  | o => o
def layC (n : Nat) : Obj → Obj
  | .cells _ t frozen => .cells #[.slice (some ⟨n, 0, none⟩) Go.Pinned.cheatRows.length Go.Pinned.cheatRows.length] t frozen
  | o => o
def layU : Obj → Obj
  | .cells _ t frozen => .cells (Go.Pinned.utf8FirstZ.map fun (n : Nat) => Value.int .u8 (n : Int)).toArray t frozen
  | o => o
def cheatCells : Obj := .cells (Go.Pinned.cheatRows.flatMap fun x => [Value.int .i64 (x.1 : Int), Value.string ⟨x.2.toArray⟩]).toArray 337
/-- A start: the heap that the door's run leaves, and the pinned tables. -/
noncomputable def laidWorld (os : Os) : World :=
  { World.doorLaid Tryz.prog 3000 os with heap := ((((World.doorLaid Tryz.prog 3000 os).heap.modify 15 layP).modify 10 layU).modify 16 (layC (World.doorLaid Tryz.prog 3000 os).heap.size)).push cheatCells }
theorem metA (os : Os) (args : Array Value) : (DataW.laidRun Tryz.prog ((laidWorld os).forCall (fun _ _ => 0) ⟨#[], args, []⟩).memory 8 (laidA.map (·.1))).map (·.1) = some laidA := by kernel_rfl
theorem metB (os : Os) (args : Array Value) : (DataW.laidRun Tryz.prog ((laidWorld os).forCall (fun _ _ => 0) ⟨#[], args, []⟩).memory 8 (laidA.map (·.1))).map (fun x => decide x.2.Nodup && laidRowsB Tryz.prog ((laidWorld os).forCall (fun _ _ => 0) ⟨#[], args, []⟩).memory x.2 && x.2.all (fun p => ![15, 10].contains p.block)) = some true := by kernel_rfl

end Go.Proofs.YtmjholcpajfldaaGreatDoor
