/- The sort of any row of variables, none among them. No condition. -/
import Derived.Test.YtmjholcpajfldaaGreatDoorHostMk
import Derived.Shelf.SlSortCmp.NoneTotal
namespace Go.Proofs.YtmjholcpajfldaaGreatDoor
open Go.RowKit
set_option linter.unusedVariables false
set_option linter.unusedSimpArgs false

set_option maxRecDepth 100000
open Go.Proofs Go.Shelf Go.Lib Go.Sort

theorem sortAny {w : World} {B cap : Nat} {vo : Option Addr} {L l : NW} (h : w.ownsRow B 77 2 (.slice vo L.length cap) L.length (prs L)) (hp : L.Perm l) (hl : l.length ≤ 32) (hr : ∀ i, i < l.length → okAt l i = true) (hw : ∀ i, i < l.length → 0 ≤ wdA l i ∧ wdA l i ≤ 4294967295) :
    Calls Tryz.prog 32 #[.slice vo L.length cap, .func (.func 33) #[] #[]] w fun e w' => e = .returned (.tuple #[]) ∧ Vr w' vo l ∧ w.grownBy w' (Value.slice vo L.length cap).ownBlock := by
  have h0 := h
  rcases h.2 with ⟨h1, h2⟩ | ⟨g, cp, cur, h1, hg, hh, hrest⟩
  · simp only [Value.slice.injEq] at h1
    obtain ⟨rfl, h3, rfl⟩ := h1
    have hL : L = [] := List.eq_nil_of_length_eq_zero h3
    subst hL
    obtain rfl : l = [] := hp.nil_eq.symm
    refine (AnyF.slices_SortFunc_none Tryz.sortL none 0 (.func (.func 33) #[] #[]) w).mono ?_
    rintro e w' ⟨rfl, rfl⟩
    exact ⟨rfl, ⟨⟨0, 0, .inl (by simp), fun i hi => by simp at hi⟩, fun i hi => by simp at hi⟩, grown_refl _ _⟩
  · simp only [Value.slice.injEq] at h1
    obtain ⟨rfl, h3, rfl⟩ := h1
    exact (sorted32 h0 hp hl hr hw (lt_of_block hh)).mono fun e w' ⟨a, b, c⟩ => ⟨a, b, c⟩

end Go.Proofs.YtmjholcpajfldaaGreatDoor
