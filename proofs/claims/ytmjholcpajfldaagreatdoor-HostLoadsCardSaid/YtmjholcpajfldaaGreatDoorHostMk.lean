/- A sorted row of distinct names is the one list. No condition. -/
import Derived.Test.YtmjholcpajfldaaGreatDoorHostMj
namespace Go.Proofs.YtmjholcpajfldaaGreatDoor
open Go.RowKit
set_option linter.unusedVariables false
set_option linter.unusedSimpArgs false

set_option maxRecDepth 100000
open Go.Proofs Go.Shelf Go.Lib Go.Sort

theorem perm_rise : ∀ (a b : NW), a.Pairwise (fun x y => Op.bytesLess x.1.toList y.1.toList = true) → b.Pairwise (fun x y => Op.bytesLess x.1.toList y.1.toList = true) → a.Perm b → a = b
  | [], b, _, _, h => h.nil_eq
  | x :: r, [], _, _, h => by have := h.length_eq; simp at this
  | x :: r, y :: s, ha, hb, h => by
    rw [List.pairwise_cons] at ha hb
    have hxy : x = y := by
      rcases List.mem_cons.1 (h.mem_iff.1 List.mem_cons_self) with h1 | h1
      · exact h1
      · rcases List.mem_cons.1 (h.mem_iff.2 List.mem_cons_self) with h2 | h2
        · exact h2.symm
        · have h3 := hb.1 x h1
          have h4 := ha.1 y h2
          rw [(less_no h3).1] at h4
          cases h4
    subst hxy
    rw [perm_rise r s ha.2 hb.2 (h.cons_inv)]
theorem rise_pair {l : NW} (hr : ∀ i, i < l.length → okAt l i = true) : l.Pairwise (fun x y => Op.bytesLess x.1.toList y.1.toList = true) := by
  rw [List.pairwise_iff_getElem]
  intro i j hi hj hij
  have h1 := rise (l := l) (k := j) (fun q hq => hr q (by omega)) j (Nat.le_refl _) i hij
  simpa [nmA, List.getD, List.getElem?_eq_getElem hi, List.getElem?_eq_getElem hj] using h1
theorem distinct_pair {l d : NW} (hl : l.Pairwise (fun x y => Op.bytesLess x.1.toList y.1.toList = true)) (hp : d.Perm l) (hs : d.Pairwise (fun x y => Op.bytesLess y.1.toList x.1.toList = false)) : d = l := by
  have hne : l.Pairwise (fun x y => x.1 ≠ y.1) := hl.imp fun {x y} h e => by rw [e, less_irr] at h; cases h
  have hne2 : d.Pairwise (fun x y => x.1 ≠ y.1) := (hp.pairwise_iff (fun {x y} h => Ne.symm h)).2 hne
  refine perm_rise d l ?_ hl hp
  refine (hs.and hne2).imp fun {x y} h => ?_
  rcases less_yes h.1 with h1 | ⟨h1, h2⟩
  · exact h1
  · refine absurd ?_ h.2
    have h3 := eq_of_beq h2
    rw [ByteArray.ext_iff]
    apply Array.toList_inj.1
    simpa [Lib.toList_data] using h3
theorem prs_get : ∀ (L : NW) (i : Nat), i < L.length → (prs L)[i * 2]? = some (.string (nmA L i)) ∧ (prs L)[i * 2 + 1]? = some (.int .u32 (wdA L i))
  | [], i, h => by simp at h
  | x :: r, 0, _ => by simp [prs, nmA, wdA]
  | x :: r, i + 1, h => by
    have ih := prs_get r i (by simpa using h)
    have e : prs (x :: r) = .string x.1 :: .int .u32 x.2 :: prs r := by simp [prs]
    rw [e, show (i + 1) * 2 = i * 2 + 1 + 1 by omega]
    simp only [List.getElem?_cons_succ]
    exact ih
theorem holds_own {w : World} {B g cap : Nat} {L : NW} (h : w.ownsRow B 77 2 (.slice (some ⟨g, 0, none⟩) L.length cap) L.length (prs L)) : HoldsK encN 2 w g 0 L.toArray := by
  intro j hj
  have hj2 : j < L.length * 2 := by simpa using hj
  have hlt : j / 2 < L.length := by omega
  refine ⟨?_, by simpa using h.frozenAt j⟩
  rw [get_flatK encN 2 L.toArray j (by simpa using hj2), Nat.zero_add, h.cellAt j hj2]
  have hg : (L.toArray : Array (ByteArray × Int))[j / 2]! = (nmA L (j / 2), wdA L (j / 2)) := by
    rw [getElem!_pos (L.toArray : Array (ByteArray × Int)) (j / 2) (by simpa using hlt)]
    simp [nmA, wdA, List.getD, List.getElem?_eq_getElem hlt]
  rw [hg]
  have hp := prs_get L (j / 2) hlt
  rcases Nat.mod_two_eq_zero_or_one j with h0 | h0
  · rw [h0, show j = j / 2 * 2 by omega, hp.1]
    simp [encN]
  · rw [h0, show (prs L)[j]? = (prs L)[j / 2 * 2 + 1]? by congr 1; omega, hp.2]
    simp [encN]
theorem vr_holds {w : World} {g : Nat} {d : Array (ByteArray × Int)} (h : HoldsK encN 2 w g 0 d) (hw : ∀ i, i < d.size → 0 ≤ wdA d.toList i ∧ wdA d.toList i ≤ 4294967295) : Vr w (some ⟨g, 0, none⟩) d.toList := by
  refine ⟨⟨g, 0, .inr rfl, fun i hi => ?_⟩, fun i hi => hw i (by simpa using hi)⟩
  have hi2 : i < d.size := by simpa using hi
  have hg : d[i]! = (nmA d.toList i, wdA d.toList i) := by
    rw [getElem!_pos d i hi2]
    simp [nmA, wdA, List.getD, List.getElem?_eq_getElem hi]
  have h0 := (h.cell (i := i) (c := 0) hi2 (by omega)).1
  have h1 := (h.cell (i := i) (c := 1) hi2 (by omega)).1
  rw [hg] at h0 h1
  exact ⟨by simpa [encN] using h0, by simpa [encN, Nat.add_assoc] using h1⟩
theorem sortWorld_gr (w : World) (g n : Nat) (d : Array (ByteArray × Int)) (os : Array Obj) : w.grownBy (sortWorldK encN 2 w g 0 n d os) (some g) := by
  refine ⟨rfl, rfl, rfl, size_sortWorldK_c encN 2 w g 0 n d os, fun i hi hn => ?_⟩
  have hne : g ≠ i := fun q => hn (by rw [q])
  show (w.heap.modify g _ ++ os)[i]? = w.heap[i]?
  rw [Array.getElem?_append_left (by simpa using hi), Array.getElem?_modify, if_neg hne]
theorem sorted32 {w : World} {B g cap : Nat} {L l : NW} (h : w.ownsRow B 77 2 (.slice (some ⟨g, 0, none⟩) L.length cap) L.length (prs L)) (hp : L.Perm l) (hl : l.length ≤ 32) (hr : ∀ i, i < l.length → okAt l i = true) (hw : ∀ i, i < l.length → 0 ≤ wdA l i ∧ wdA l i ≤ 4294967295) (hg : g < w.heap.size) :
    Calls Tryz.prog 32 #[.slice (some ⟨g, 0, none⟩) L.length cap, .func (.func 33) #[] #[]] w fun e w' => e = .returned (.tuple #[]) ∧ Vr w' (some ⟨g, 0, none⟩) l ∧ w.grownBy w' (some g) := by
  have hlen := hp.length_eq
  have hh := holds_own h
  refine (sort32 g 0 cap L.toArray w hh hg (by simp; omega)).mono ?_
  rintro e w' ⟨rfl, d', n, os, ⟨hsz, -, hperm⟩, hsrt, rfl⟩
  have hd : d'.toList.Perm l := by
    have h1 : d'.extract 0 L.toArray.size = d' := by rw [← hsz]; simp
    rw [h1] at hperm
    simp only [Array.extract_size] at hperm
    exact (by simpa using hperm : d'.toList.Perm L).trans hp
  have hs : d'.toList.Pairwise (fun x y => Op.bytesLess y.1.toList x.1.toList = false) := by
    rw [List.pairwise_iff_getElem]
    intro i j hi hj hij
    have h1 := hsrt i j (Nat.zero_le _) hij (by simpa [← hsz] using hj)
    rw [ltV, getElem!_pos d' i (by simpa using hi), getElem!_pos d' j (by simpa using hj)] at h1
    simpa using h1
  have heq := distinct_pair (rise_pair hr) hd hs
  have hH := holdsK_sortWorldK_c encN 2 w g 0 L.toArray d' n os hh hg hsz
  have hv := vr_holds hH (fun i hi => by rw [heq]; exact hw i (by rw [← heq]; simpa using hi))
  rw [heq] at hv
  exact ⟨rfl, hv, sortWorld_gr w g n d' os⟩

end Go.Proofs.YtmjholcpajfldaaGreatDoor
