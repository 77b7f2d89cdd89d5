/- Helper lemmas for the rows of this seat: arguments as data, opened. No condition. -/
import Derived.Test.YtmjholcpajfldaaGreatDoorRows
import Derived.Test.YtmjholcpajfldaaGreatDoorKit
import Derived.ProofKit
import Derived.OpenShut
import Derived.ShutString
import Derived.ChangeOld
import Derived.JoinedCond
import Derived.SizedLaws
namespace Go.Proofs.YtmjholcpajfldaaGreatDoor
open Go.ChangeShapes Go.WideShapes Go.ChangeAt Go.RowKit
open Go.ChangeMaps (open_string shut_string)
set_option linter.unusedVariables false
set_option linter.unusedSimpArgs false

theorem bulk_append {H : Type} (l r : List (DataW H)) : Rows.uptoBulkAll (l ++ r) = Rows.uptoBulkAll l + Rows.uptoBulkAll r := by
  induction l with
  | nil => simp [Rows.uptoBulkAll]
  | cons x l ih => simp only [List.cons_append, Rows.uptoBulkAll, ih]; omega
theorem bulk_one {H : Type} (d : DataW H) : 1 ≤ Rows.uptoBulk d := by
  cases d with
  | lit l => cases l <;> simp [Rows.uptoBulk]
  | nil => simp [Rows.uptoBulk]
  | ptr d => simp [Rows.uptoBulk]
  | slice elems spare => simp [Rows.uptoBulk]
  | agg parts => simp [Rows.uptoBulk]
  | iface t d => simp [Rows.uptoBulk]
  | map entries => simp [Rows.uptoBulk]
  | held h => simp [Rows.uptoBulk]
theorem bulk_length {H : Type} (l : List (DataW H)) : l.length ≤ Rows.uptoBulkAll l := by
  induction l with
  | nil => simp [Rows.uptoBulkAll]
  | cons x r ih => have := bulk_one x; simp only [Rows.uptoBulkAll, List.length_cons]; omega
theorem bulk_bound {H : Type} {l : List (DataW H)} (hk : Rows.uptoSmall H l = true) : Rows.uptoBulkAll l ≤ 1048576 := by
  have h := of_decide_eq_true hk
  exact h

section
variable {H : Type} {enc : TypeId × Value → H} {P : Program} {w : World}

/-- A slice of integers that came in: its value, what it reads as, its datum. -/
theorem open_ints_at {t e : TypeId} {k : IntKind} {a : Option Addr} {len cap : Nat} {d : DataW H} {p : List MemPlace} (ht : P.underlying t = some (.slice e)) (he : P.underlying e = some (.int k)) (hc : P.cellsOf e = 1)
    (h : DataW.Trod enc P w 0 (fun _ => true) true t (.slice a len cap) d p) :
    ∃ l rest : List Int, len = l.length ∧ Ints k w a l ∧ l.length + rest.length = cap ∧ cap ≤ maxLen ∧ ((d = .nil ∧ cap = 0) ∨ d = .slice (lits k l) (lits k rest)) := by
  obtain ⟨fuel, hf⟩ := h
  rcases open_ints ht he hc hf with ⟨hcs, hx⟩ | ⟨x, l, c, zs, hcs, _, hl, hm, hz, hx, hcell, hwz⟩
  · simp [Value.cells] at hcs
    obtain ⟨rfl, rfl, rfl⟩ := hcs
    simp only [Prod.mk.injEq] at hx
    exact ⟨[], [], rfl, Ints.nil _ _ _, rfl, by simp [maxLen], .inl ⟨hx.1, rfl⟩⟩
  · simp [Value.cells] at hcs
    obtain ⟨rfl, rfl, rfl⟩ := hcs
    simp only [Prod.mk.injEq] at hx
    simp only [if_true] at hz
    have hL : (zs.take len).length = len := by rw [List.length_take]; omega
    refine ⟨zs.take len, zs.drop len, hL.symm, ⟨fun n hn => hwz n (List.mem_of_mem_take hn), ?_⟩, by simp only [List.length_take, List.length_drop]; omega, hm, .inr hx.1⟩
    by_cases h0 : len = 0
    · exact .inl (by omega)
    · right
      obtain ⟨b, off, spot⟩ := x
      have hspot : spot = none := by simpa [Addr.add] using World.cell?_spot (hcell 0 (by omega))
      subst hspot
      refine ⟨b, off, rfl, fun i hi => ?_⟩
      rw [hL] at hi
      have := hcell i (by omega)
      rw [add_plain] at this
      rw [this]
      simp [List.getD, List.getElem?_take, hi]

theorem bulk_ints {k : IntKind} {l rest : List Int} {cap : Nat} {d : DataW H} (hc : l.length + rest.length = cap) (hd : (d = .nil ∧ cap = 0) ∨ d = .slice (lits k l) (lits k rest)) : cap + 1 ≤ Rows.uptoBulk d := by
  rcases hd with ⟨rfl, rfl⟩ | rfl
  · simp [Rows.uptoBulk]
  · have h1 := bulk_length (lits (H := H) k l)
    have h2 := bulk_length (lits (H := H) k rest)
    simp only [lits, List.length_map] at h1 h2
    simp only [Rows.uptoBulk, lits]
    omega

theorem sized_ints {k : IntKind} {ts : List TypeId} {ds : List (DataW H)} {l rest : List Int} {cap : Nat} {d : DataW H} (h : (DataW.weightsEach P ts ds).all (· ≤ reachBytes) = true) {j : Nat} {t e : TypeId} (ht : ts[j]? = some t) (hj : ds[j]? = some d)
    (hu : P.underlying t = some (.slice e)) (hc : l.length + rest.length = cap) (hd : (d = .nil ∧ cap = 0) ∨ d = .slice (lits k l) (lits k rest)) : cap * P.bytesOf e ≤ 140737488351232 := by
  rcases hd with ⟨rfl, rfl⟩ | rfl
  · simp
  · have := sized_slice h ht hj hu
    simp only [lits, List.length_map] at this
    rw [hc] at this
    exact this
end

theorem own : ownKnob Tryz.prog.godebug = none := by kernel_rfl
theorem laidOut : laidOutB Tryz.prog = true := by kernel_rfl
end Go.Proofs.YtmjholcpajfldaaGreatDoor
