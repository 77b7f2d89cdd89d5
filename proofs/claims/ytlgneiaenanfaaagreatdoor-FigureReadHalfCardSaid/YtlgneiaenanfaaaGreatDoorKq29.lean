/- Walks and plain laws, merged: Frame FzU FzT FzX. No condition. -/
import Derived.Test.YtlgneiaenanfaaaGreatDoorRows
import Derived.ProofKit
import Derived.OpenShut
import Derived.ShutString
import Derived.ChangeOld
import Derived.JoinedCond
import Derived.SizedLaws
import Derived.Test.YtlgneiaenanfaaaGreatDoorKq01
import Derived.Test.YtlgneiaenanfaaaGreatDoorCards
import Derived.LaidMore
import Derived.Stop.Joined
import Derived.SevenTiedAt
import Derived.Test.YtlgneiaenanfaaaGreatDoorTie
import Derived.Lib.LaidTab
import Derived.Lib.LaidU8
namespace Go.Proofs.YtlgneiaenanfaaaGreatDoor
open Go.RowKit
set_option linter.unusedVariables false
set_option linter.unusedSimpArgs false
set_option maxRecDepth 100000
set_option maxHeartbeats 64000000
section
open Go.ChangeShapes Go.WideShapes Go.ChangeAt Go.RowKit
open Go.ChangeMaps (open_string shut_string)
theorem bulk_append {H : Type} (l r : List (DataW H)) : Rows.uptoBulkAll (l ++ r) = Rows.uptoBulkAll l + Rows.uptoBulkAll r := by
 induction l with
 | nil => simp [Rows.uptoBulkAll]
 | cons x l ih => simp only [List.cons_append, Rows.uptoBulkAll, ih]; omega
theorem bulk_one {H : Type} (d : DataW H) : 1 ≤ Rows.uptoBulk d := by
 cases d with
 | lit l => cases l <;> simp [Rows.uptoBulk]
 | nil => simp [Rows.uptoBulk]
 | ptr d => simp [Rows.uptoBulk]
 | slice elems spare => simp [Rows.uptoBulk]
 | agg parts => simp [Rows.uptoBulk]
 | iface t d => simp [Rows.uptoBulk]
 | map entries => simp [Rows.uptoBulk]
 | held h => simp [Rows.uptoBulk]
theorem bulk_length {H : Type} (l : List (DataW H)) : l.length ≤ Rows.uptoBulkAll l := by
 induction l with
 | nil => simp [Rows.uptoBulkAll]
 | cons x r ih => have := bulk_one x; simp only [Rows.uptoBulkAll, List.length_cons]; omega
theorem bulk_bound {H : Type} {l : List (DataW H)} (hk : Rows.uptoSmall H l = true) : Rows.uptoBulkAll l ≤ 1048576 := by
 have h := of_decide_eq_true hk
 exact h
section
variable {H : Type} {enc : TypeId × Value → H} {P : Program} {w : World}
theorem open_ints_at {t e : TypeId} {k : IntKind} {a : Option Addr} {len cap : Nat} {d : DataW H} {p : List MemPlace} (ht : P.underlying t = some (.slice e)) (he : P.underlying e = some (.int k)) (hc : P.cellsOf e = 1)
  (h : DataW.Trod enc P w 0 (fun _ => true) true t (.slice a len cap) d p) :
  ∃ l rest : List Int, len = l.length ∧ Ints k w a l ∧ l.length + rest.length = cap ∧ cap ≤ maxLen ∧ ((d = .nil ∧ cap = 0) ∨ d = .slice (lits k l) (lits k rest)) := by
 obtain ⟨fuel, hf⟩ := h
 rcases open_ints ht he hc hf with ⟨hcs, hx⟩ | ⟨x, l, c, zs, hcs, _, hl, hm, hz, hx, hcell, hwz⟩
 ·simp [Value.cells] at hcs
  obtain ⟨rfl, rfl, rfl⟩ := hcs
  simp only [Prod.mk.injEq] at hx
  exact ⟨[], [], rfl, Ints.nil _ _ _, rfl, by simp [maxLen], .inl ⟨hx.1, rfl⟩⟩
 ·simp [Value.cells] at hcs
  obtain ⟨rfl, rfl, rfl⟩ := hcs
  simp only [Prod.mk.injEq] at hx
  simp only [if_true] at hz
  have hL : (zs.take len).length = len := by rw [List.length_take]; omega
  refine ⟨zs.take len, zs.drop len, hL.symm, ⟨fun n hn => hwz n (List.mem_of_mem_take hn), ?_⟩, by simp only [List.length_take, List.length_drop]; omega, hm, .inr hx.1⟩
  by_cases h0 : len = 0
  ·exact .inl (by omega)
  ·right
   obtain ⟨b, off, spot⟩ := x
   have hspot : spot = none := by simpa [Addr.add] using World.cell?_spot (hcell 0 (by omega))
   subst hspot
   refine ⟨b, off, rfl, fun i hi => ?_⟩
   rw [hL] at hi
   have := hcell i (by omega)
   rw [add_plain] at this
   rw [this]
   simp [List.getD, List.getElem?_take, hi]
theorem bulk_ints {k : IntKind} {l rest : List Int} {cap : Nat} {d : DataW H} (hc : l.length + rest.length = cap) (hd : (d = .nil ∧ cap = 0) ∨ d = .slice (lits k l) (lits k rest)) : cap + 1 ≤ Rows.uptoBulk d := by
 rcases hd with ⟨rfl, rfl⟩ | rfl
 ·simp [Rows.uptoBulk]
 ·have h1 := bulk_length (lits (H := H) k l)
  have h2 := bulk_length (lits (H := H) k rest)
  simp only [lits, List.length_map] at h1 h2
  simp only [Rows.uptoBulk, lits]
  omega
theorem sized_ints {k : IntKind} {ts : List TypeId} {ds : List (DataW H)} {l rest : List Int} {cap : Nat} {d : DataW H} (h : (DataW.weightsEach P ts ds).all (· ≤ reachBytes) = true) {j : Nat} {t e : TypeId} (ht : ts[j]? = some t) (hj : ds[j]? = some d)
  (hu : P.underlying t = some (.slice e)) (hc : l.length + rest.length = cap) (hd : (d = .nil ∧ cap = 0) ∨ d = .slice (lits k l) (lits k rest)) : cap * P.bytesOf e ≤ 140737488351232 := by
 rcases hd with ⟨rfl, rfl⟩ | rfl
 ·simp
 ·have := sized_slice h ht hj hu
  simp only [lits, List.length_map] at this
  rw [hc] at this
  exact this
end
theorem own : ownKnob Tryz.prog.godebug = none := by kernel_rfl
theorem laidOut : laidOutB Tryz.prog = true := by kernel_rfl
end
section
set_option maxRecDepth 100000
def powCells : List Value := Go.Pinned.pow10Rows.flatMap fun x => [Value.int .u64 (x.1 : Int), Value.int .u64 (x.2 : Int)]
theorem trod_pow (w : World) : DataW.trod (fun _ => ()) Tryz.prog w 0 (fun _ => true) false 8 247 powCells = some (Go.Pinned.pow10Tab, []) := by kernel_rfl
end
section
set_option maxRecDepth 100000
theorem laidVars_ins {P : Program} {w : World} {n : String} {d : DataW Unit} {g : Nat} {t : TypeId} {cs : Array Value} {fuel : Nat} (hg : P.globalNamed n = some g) (ht : (P.globals[g]?).map (·.type) = some t) (hv : w.var? P n = some cs)
  (hr : DataW.trod (fun _ => ()) P w 0 (fun _ => true) false fuel t cs.toList = some (d, [])) {l2 : List (String × DataW Unit)} : ∀ {l1 : List (String × DataW Unit)} {ps : List MemPlace}, DataW.LaidVars P w (l1 ++ l2) ps → ∃ ps', DataW.LaidVars P w (l1 ++ (n, d) :: l2) ps' ∧ ps'.Perm (MemPlace.row ⟨g, 0, none⟩ cs.size ++ ps)
 | [], ps, h => ⟨_, ⟨g, t, cs, fuel, [], ps, hg, ht, hv, hr, h, rfl⟩, by simp⟩
 | (m, e) :: l, ps, h => by
  obtain ⟨g', t', cs', fuel', p, q, h1, h2, h3, h4, h5, h6⟩ := h
  obtain ⟨q', i1, i2⟩ := laidVars_ins hg ht hv hr h5
  refine ⟨_, ⟨g', t', cs', fuel', p, q', h1, h2, h3, h4, i1, rfl⟩, ?_⟩
  rw [h6]
  generalize MemPlace.row ⟨g', 0, none⟩ cs'.size = A
  generalize MemPlace.row ⟨g, 0, none⟩ cs.size = R at *
  refine ((i2.append_left (A ++ p)).trans ?_)
  rw [← List.append_assoc, ← List.append_assoc]
  exact (List.perm_append_comm (l₁ := A ++ p) (l₂ := R)).append_right q
def LMx (P : Program) (w : World) (l : List (String × DataW Unit)) (av : List Nat) : Prop :=
 ∃ ps, DataW.LaidVars P w l ps ∧ ps.Nodup ∧ (∀ b off, MemPlace.cell b off ∈ ps → (∃ c t, w.heap[b]? = some (.cells c t (0, 0))) ∧ ∀ u v, w.cell? ⟨b, off, none⟩ = some (.iface u v) → Value.okWide P w .any 0 u v) ∧ ∀ p ∈ ps, p.block ∉ av
theorem LMx.run {P : Program} {w : World} {l : List (String × DataW Unit)} {av : List Nat} (fuel : Nat) (h : (DataW.laidRun P w fuel (l.map (·.1))).map (·.1) = some l)
  (hr : (DataW.laidRun P w fuel (l.map (·.1))).map (fun x => decide x.2.Nodup && laidRowsB P w x.2 && x.2.all (fun p => !av.contains p.block)) = some true) : LMx P w l av := by
 cases hx : DataW.laidRun P w fuel (l.map (·.1)) with
 | none => rw [hx] at h; cases h
 | some x =>
  obtain ⟨l', ps⟩ := x
  rw [hx] at h hr
  simp only [Option.map_some, Option.some.injEq] at h hr
  subst h
  simp only [Bool.and_eq_true] at hr
  obtain ⟨⟨h1, h2⟩, h3⟩ := hr
  refine ⟨ps, DataW.LaidVars_of_laidRun hx, of_decide_eq_true h1, fun b off hp => ?_, fun p hp => ?_⟩
  ·have := List.all_eq_true.1 h2 _ hp
   simp only [Bool.and_eq_true] at this
   obtain ⟨k1, k2⟩ := this
   refine ⟨?_, fun u v hcv => ?_⟩
   ·split at k1
    ·rename_i c t hh2
     exact ⟨c, t, hh2⟩
    ·cases k1
   ·rw [hcv] at k2
    exact Value.okWide_of_okWideB k2
  ·have := List.all_eq_true.1 h3 p hp
   simpa using this
theorem LMx.ins {P : Program} {w : World} {l1 l2 : List (String × DataW Unit)} {av av' : List Nat} {n : String} {d : DataW Unit} {g : Nat} {t : TypeId} {cs : Array Value} {ty : TypeId} (fuel2 : Nat)
  (h : LMx P w (l1 ++ l2) av) (hga : g ∈ av) (hav : ∀ x ∈ av', x ∈ av ∧ x ≠ g)
  (hg : P.globalNamed n = some g) (ht : (P.globals[g]?).map (·.type) = some t) (hv : w.var? P n = some cs) (hrd : DataW.trod (fun _ => ()) P w 0 (fun _ => true) false fuel2 t cs.toList = some (d, []))
  (hh : w.heap[g]? = some (.cells cs ty (0, 0))) (hc : ∀ x ∈ cs.toList, ∀ u v, x ≠ .iface u v) : LMx P w (l1 ++ (n, d) :: l2) av' := by
 obtain ⟨ps, hl, h1, h2, h3⟩ := h
 obtain ⟨ps', hl', hperm⟩ := laidVars_ins hg ht hv hrd hl
 have hrow : ∀ p ∈ MemPlace.row ⟨g, 0, none⟩ cs.size, p.block = g := fun p hp => by
  unfold MemPlace.row at hp
  obtain ⟨i, -, hi⟩ := List.mem_map.1 hp
  rw [← hi]
  rfl
 refine ⟨ps', hl', ?_, ?_, ?_⟩
 ·rw [hperm.nodup_iff]
  refine (List.perm_append_comm.nodup_iff).1 ?_
  refine List.nodup_append.2 ⟨h1, ?_, ?_⟩
  ·unfold MemPlace.row
   refine List.Pairwise.map _ (fun a b hab => ?_) List.nodup_range
   intro he
   simp at he
   exact hab he
  ·intro a ha b hb' hab
   subst hab
   have := h3 _ ha
   rw [hrow _ hb'] at this
   exact this hga
 ·intro b off hp
  rcases (List.mem_append.1 (hperm.mem_iff.1 hp)).symm with hp | hp
  ·exact h2 b off hp
  ·have e : g = b := (hrow _ hp).symm
   subst e
   refine ⟨⟨_, _, hh⟩, fun u v hcv => ?_⟩
   unfold World.cell? at hcv
   rw [hh] at hcv
   have hm : Value.iface u v ∈ cs.toList := by
    have hcv : cs[off]? = some (.iface u v) := hcv
    rw [← Array.getElem?_toList] at hcv
    exact List.mem_of_getElem? hcv
   exact absurd rfl (hc _ hm u v)
 ·intro p hp hx
  rcases (List.mem_append.1 (hperm.mem_iff.1 hp)).symm with hp | hp
  ·exact h3 p hp (hav _ hx).1
  ·exact (hav _ hx).2 (hrow p hp)
theorem LMx.met {P : Program} {w : World} {l : List (String × DataW Unit)} {av : List Nat} (h : LMx P w l av) : laidMet P l w := by
 obtain ⟨ps, h1, h2, h3, -⟩ := h
 exact ⟨ps, h1, h2, h3⟩
abbrev laid13 : List (String × DataW Unit) := Rows.figureReadRow.laid
abbrev laidA : List (String × DataW Unit) := Rows.figureReadRow.laid.take 12
def layP : Obj → Obj
 | .cells _ t frozen => .cells powCells.toArray t frozen
 | o => o
def layC (n : Nat) : Obj → Obj
 | .cells _ t frozen => .cells #[.slice (some ⟨n, 0, none⟩) Go.Pinned.cheatRows.length Go.Pinned.cheatRows.length] t frozen
 | o => o
def cheatCells : Obj := .cells (Go.Pinned.cheatRows.flatMap fun x => [Value.int .i64 (x.1 : Int), Value.string ⟨x.2.toArray⟩]).toArray 250
noncomputable def laidWorld (os : Os) : World :=
 { World.doorLaid Tryz.prog 3000 os with heap := (((World.doorLaid Tryz.prog 3000 os).heap.modify 8 layP).modify 9 (layC (World.doorLaid Tryz.prog 3000 os).heap.size)).push cheatCells }
theorem metA (os : Os) (args : Array Value) : (DataW.laidRun Tryz.prog ((laidWorld os).forCall (fun _ _ => 0) ⟨#[], args, []⟩).memory 8 (laidA.map (·.1))).map (·.1) = some laidA := by kernel_rfl
theorem metB (os : Os) (args : Array Value) : (DataW.laidRun Tryz.prog ((laidWorld os).forCall (fun _ _ => 0) ⟨#[], args, []⟩).memory 8 (laidA.map (·.1))).map (fun x => decide x.2.Nodup && laidRowsB Tryz.prog ((laidWorld os).forCall (fun _ _ => 0) ⟨#[], args, []⟩).memory x.2 && x.2.all (fun p => ![8].contains p.block)) = some true := by kernel_rfl
theorem pow_heap (os : Os) (args : Array Value) : ((laidWorld os).forCall (fun _ _ => 0) ⟨#[], args, []⟩).memory.heap[8]? = some (.cells powCells.toArray 247 (0, 0)) := by kernel_rfl
theorem pow_ints : ∀ x ∈ powCells.toArray.toList, ∀ u v, x ≠ Value.iface u v := by
 intro x hx u v e
 subst e
 simp [powCells] at hx
theorem met13 (os : Os) (args : Array Value) : laidMet Tryz.prog laid13 ((laidWorld os).forCall (fun _ _ => 0) ⟨#[], args, []⟩).memory := by
 have h1 := LMx.run (av := [8]) 8 (metA os args) (metB os args)
 have h2 := LMx.ins (l1 := laidA) (l2 := []) (av' := []) (n := "internal/strconv.pow10Tab") (g := 8) (t := 247) (cs := powCells.toArray) 8 (by rw [List.append_nil]; exact h1) (by decide) (by decide) (by kernel_rfl) (by kernel_rfl) (by kernel_rfl) (trod_pow _) (pow_heap os args) pow_ints
 exact h2.met
theorem door_met (os : Os) (args : Array Value) : laidMetH Tryz.prog laid13 ((laidWorld os).forCall (fun _ _ => 0) ⟨#[], args, []⟩).memory := by
 rw [MakeChecks.laidMetH_plain _ _ _ (by kernel_rfl)]
 exact met13 os args
end
section
set_option maxRecDepth 100000
theorem shaped_but {P : Program} {w : World} (g0 : Nat) (hv : ((List.range P.globals.size).all fun g => g == g0 || (match (((begin P (fun _ _ => 0) default).world).heap[g]?).bind Obj.row? with
  | none => true
  | some (zero, t) =>
   match w.heap[g]? with
   | some (.cells cs t' frozen) => decide (t' = t) && decide (frozen = (0, 0)) && cs.size == zero.size && (!P.buildable t || Row.okRefB P w t cs)
   | _ => false)) = true)
  (hr : (w.heap.toList.drop P.globals.size).take ((begin P (fun _ _ => 0) default).world.heap.size - P.globals.size) =
   (begin P (fun _ _ => 0) default).world.heap.toList.drop P.globals.size)
  (h0 : ∀ zero t, (((begin P (fun _ _ => 0) default).world).heap[g0]?).bind Obj.row? = some (zero, t) → ∃ cs, w.heap[g0]? = some (.cells cs t) ∧ cs.size = zero.size ∧ (P.buildable t = true → Row.ok P w .any 0 t cs)) : w.Shaped P := by
 refine ⟨fun g zero t hg hz => ?_, fun k h1 h2 => ?_⟩
 case refine_2 =>
  have := congrArg (·[k - P.globals.size]?) hr
  simp only [List.getElem?_take, List.getElem?_drop, Array.getElem?_toList] at this
  rw [if_pos (by omega), Nat.add_sub_cancel' h1] at this
  exact this
 by_cases hgg : g = g0
 ·subst hgg; exact h0 zero t hz
 simp only [List.all_eq_true, List.mem_range] at hv
 have := hv g hg
 rw [show (g == g0) = false from beq_eq_false_iff_ne.2 hgg, Bool.false_or, hz] at this
 simp only at this
 split at this
 ·rename_i cs t' fr hw
  simp only [Bool.and_eq_true, decide_eq_true_eq, beq_iff_eq, Bool.or_eq_true, Bool.not_eq_true'] at this
  obtain ⟨⟨⟨rfl, rfl⟩, hs⟩, hb⟩ := this
  refine ⟨cs, hw, hs, fun hbuild => ?_⟩
  rcases hb with hb | hb
  ·rw [hbuild] at hb; cases hb
  ·exact Row.ok_of_okRefB hb
 ·cases this
theorem pow_types : Tryz.prog.cellTypes Tryz.prog.depth 247 = some (List.replicate 1392 29) := by kernel_rfl
theorem pow_all (w : World) : powCells.all (fun v => Cell.okRefB Tryz.prog w 29 v) = true := by kernel_rfl
theorem pow_size : powCells.toArray.size = 1392 := by kernel_rfl
theorem pow_zero : ((((begin Tryz.prog (fun _ _ => 0) default).world).heap[8]?).bind Obj.row?).map (fun x => (x.1.size, x.2)) = some (1392, 247) := by kernel_rfl
theorem pow_row (w : World) : Row.ok Tryz.prog w .any 0 247 powCells.toArray := by
 refine ⟨_, pow_types, ⟨1, by rw [pow_size, List.length_replicate]⟩, fun i v hv => ⟨29, ?_, ?_⟩⟩
 ·rw [List.length_replicate, List.getElem?_replicate, if_pos (Nat.mod_lt _ (by decide))]
 ·have hm : v ∈ powCells := by
   rw [← Array.getElem?_toList] at hv
   exact List.mem_of_getElem? hv
  exact Cell.ok_of_okRefB (List.all_eq_true.1 (pow_all w) v hm)
theorem start_shaped (os : Os) (args : Array Value) : ((laidWorld os).forCall (fun _ _ => 0) ⟨#[], args, []⟩).Shaped Tryz.prog := by
 refine shaped_but 8 (by kernel_rfl) (by kernel_rfl) ?_
 intro zero t hz
 have h := pow_zero
 rw [hz] at h
 simp only [Option.map_some, Option.some.injEq, Prod.mk.injEq] at h
 obtain ⟨h1, rfl⟩ := h
 exact ⟨powCells.toArray, pow_heap os args, by rw [pow_size, h1], fun _ => pow_row _⟩
end
end Go.Proofs.YtlgneiaenanfaaaGreatDoor
