/- Walks and plain laws, merged: TokI TokJ TokL RefD RefG RefJ RefM. No condition. -/
import Derived.Test.YtlabadkfkbenoaaGreatDoorProg
import Derived.Test.YtlabadkfkbenoaaGreatDoorKn05
import Derived.WalkMore
import Derived.Test.YtlabadkfkbenoaaGreatDoorKn01
import Derived.Test.YtlabadkfkbenoaaGreatDoorKn04
import Derived.Laws.BytesArg
import Derived.Outline
namespace Go.Proofs.YtlabadkfkbenoaaGreatDoor
open Go.RowKit
set_option linter.unusedVariables false
set_option linter.unusedSimpArgs false
set_option maxRecDepth 100000
section
open Go.Shelf
attribute [local go_sem] Oper.semAt_some
def startB (c : Int) : Bool := letterB c || c == 95
/-- the code with which the text behind a place begins -/
def codeFrom (s : ByteArray) (p : Nat) : Int := codeAt (s.extract p s.size) 0
def wordEnd (s : ByteArray) (p : Nat) : Nat := p + stopAt (cuts (s.extract p s.size)) (s.size - p)
theorem cuts_first (s : ByteArray) (h : 0 < s.size) : ∃ l, cuts s = (0, codeAt s 0) :: l := by
 unfold cuts
 obtain ⟨n, hn⟩ : ∃ n, s.size = n + 1 := ⟨s.size - 1, by omega⟩
 rw [hn]
 simp only [cutsN]
 rw [if_pos (by omega)]
 exact ⟨_, rfl⟩
theorem stop_pos {l : List (Nat × Int)} {c : Int} {s : ByteArray} (hl : cuts s = (0, c) :: l) (hc : nameB c = true) (h0 : ∀ n i (x : Nat × Int), x ∈ cutsN s n i → i ≤ x.1) : 0 < s.size → 0 < stopAt (cuts s) s.size ∧ stopAt (cuts s) s.size ≤ s.size := by
 intro hs
 unfold stopAt
 split
 ·rename_i x hx
  have h1 := List.find?_some hx
  have h2 := List.mem_of_find?_eq_some hx
  refine ⟨?_, by have := cuts_lt s x h2; omega⟩
  rw [hl] at h2
  rcases List.mem_cons.1 h2 with rfl | h3
  ·simp [hc] at h1
  ·unfold cuts at hl
   obtain ⟨n, hn⟩ : ∃ n, s.size = n + 1 := ⟨s.size - 1, by omega⟩
   rw [hn] at hl
   simp only [cutsN] at hl
   rw [if_pos (by omega)] at hl
   injection hl with _ hl
   rw [← hl] at h3
   have := h0 _ _ _ h3
   have := decode_wide s 0
   omega
 ·omega
theorem cutsN_ge (s : ByteArray) : ∀ n i (x : Nat × Int), x ∈ cutsN s n i → i ≤ x.1
 | 0, _, _, h => by cases h
 | n + 1, i, x, h => by
  simp only [cutsN] at h
  split at h
  ·rcases List.mem_cons.1 h with rfl | h'
   ·exact Nat.le_refl _
   ·have := cutsN_ge s n _ x h'
    omega
  ·cases h
theorem wordEnd_gt (s : ByteArray) (p : Nat) (hp : p < s.size) (hc : nameB (codeFrom s p) = true) : p < wordEnd s p ∧ wordEnd s p ≤ s.size := by
 have hsz : (s.extract p s.size).size = s.size - p := by simp
 obtain ⟨l, hl⟩ := cuts_first (s.extract p s.size) (by omega)
 have := stop_pos hl hc (cutsN_ge _) (by omega)
 rw [hsz] at this
 unfold wordEnd
 omega
/-- a code below 128 is its byte -/
theorem code_byte (s : ByteArray) (p : Nat) (hp : p < s.size) (h : 0 ≤ codeFrom s p) (h2 : codeFrom s p < 128) : codeFrom s p = ((s[p]'hp).toNat : Int) := by
 have hsz : (s.extract p s.size).size = s.size - p := by simp
 have hg : (s.extract p s.size).get! 0 = s[p]'hp := by
  rw [get_at (s.extract p s.size) 0 (by omega)]
  have := ByteArray.getElem_extract (b := s) (start := p) (stop := s.size) (i := 0) (by omega : 0 < (s.extract p s.size).size)
  simpa using this
 unfold codeFrom codeAt at h h2 ⊢
 split at h
 ·omega
 ·rename_i hn
  rw [if_neg hn] at h2 ⊢
  have hb : ∀ k, ((s.extract p s.size).get! (0 + k)).toNat < 256 := fun k => ((s.extract p s.size).get! (0 + k)).toNat_lt
  have h0 := hb 0; have h1 := hb 1; have h3 := hb 2; have h4 := hb 3
  rw [← hg]
  revert h h2
  simp only [Utf8.decode]
  repeat' split
  all_goals simp_all [Utf8.runeError, Utf8.valid]
  all_goals omega
def Tk (s : ByteArray) (p : Nat) (kd en er : Int) : Prop :=
 (er = 0 → ∃ n : Nat, en = n ∧ p < n ∧ n ≤ s.size) ∧ (startB (codeFrom s p) = true → kd = 1 ∧ er = 0 ∧ en = (wordEnd s p : Nat)) ∧ (startB (codeFrom s p) = false → kd ≠ 1)
def TkR (s : ByteArray) (p : Nat) (w : World) (e : Ending) (w' : World) : Prop :=
 (∃ kd en er : Int, e = .returned (.tuple #[.int .u8 kd, .int .i64 en, .int .i64 er]) ∧ Tk s p kd en er) ∧ Below w.heap.size w w'
theorem Tk.word {s : ByteArray} {p : Nat} (hs : startB (codeFrom s p) = true) (hp : p < s.size) : Tk s p 1 (wordEnd s p : Nat) 0 := by
 have h := wordEnd_gt s p hp (by unfold startB at hs; unfold nameB; revert hs; cases letterB (codeFrom s p) <;> simp <;> intro h <;> simp [h])
 exact ⟨fun _ => ⟨_, rfl, h⟩, fun _ => ⟨rfl, rfl, rfl⟩, fun h => by rw [hs] at h; cases h⟩
theorem Tk.other {s : ByteArray} {p : Nat} {kd en er : Int} (hs : startB (codeFrom s p) = false) (hk : kd ≠ 1) (h : er = 0 → ∃ n : Nat, en = n ∧ p < n ∧ n ≤ s.size) : Tk s p kd en er :=
 ⟨h, fun h => (by rw [hs] at h; cases h), fun _ => hk⟩
set_option maxHeartbeats 40000000 in
theorem token56 (s : ByteArray) (p : Nat) (w : World) (hs : s.size ≤ 1048576) (hp : p < s.size) : Calls Tryz.prog 204 #[.string s, .int .i64 p, .slice none 0 0] w (TkR s p w) := by
 refine (callsIn_wide (n := 5)).1 ?_
 refine callsIn_of_wp_marks Tryz.func204 rfl trivial ?_ rfl
 simp only [Tryz.ntmps204, List.size_toArray, List.length_cons, List.length_nil, Nat.reduceAdd, Nat.reduceSub, Array.replicate_succ, Array.replicate_zero, List.push_toArray, List.append_toArray, List.nil_append, List.cons_append]
 gi_wp2_with (refine ⟨trivial, ?_⟩; gi_at_call 228; refine (callsIn_wide.2 (cutting74 _ _)).mono ?_; rintro e w' ⟨rfl, rfl⟩)
 obtain ⟨W0, hW0⟩ : ∃ W0, W0 = (w.alloc (.cells #[.int .i32 (-1)] 21)).alloc (.cells #[.string (s.extract p s.size)] 9) := ⟨_, rfl⟩
 rw [← hW0]
 have hsz : W0.heap.size = w.heap.size + 2 := by rw [hW0]; simp
 have hB0 : Below w.heap.size w W0 := by rw [hW0]; exact ((Below.refl _ w).alloc (Nat.le_refl _) _).alloc (by simp) _
 have b4 : Boxed W0 w.heap.size 21 (.int .i32 (-1)) := by rw [hW0]; exact (Boxed.new w 21 _).alloc _
 have b7 : Boxed W0 (w.heap.size + 1) 9 (.string (s.extract p s.size)) := by
  rw [hW0]; have := Boxed.new (w.alloc (.cells #[.int .i32 (-1)] 21)) 9 (.string (s.extract p s.size)); simpa using this
 clear hW0
 have hext : (s.extract p s.size).size = s.size - p := by simp
 obtain ⟨lc, hlc⟩ := cuts_first (s.extract p s.size) (by omega)
 refine wpIn_rangeFunc_ownF (w0 := W0) rfl (by omega) (gf := 253) (lb := #[.pointer (some ⟨w.heap.size + 1, 0, none⟩)]) rfl trivial (enters_of Tryz.func253 (by kernel_rfl) rfl)
  (cut_stops 4 (by omega) (w.heap.size + 1) W0.heap.size (s.extract p s.size) (by simp; omega) W0 (by omega) (Nat.le_refl _) b7.cell) Kc.t (Kc.b (Nat.le_refl _)) (Below.refl _ _) (fun _ => rfl)
  (fun pre W => pre = [] ∧ Below W0.heap.size W0 W)
  (fun c pre W => ((∃ x, c = .exit 0 ∧ pre = [x] ∧ W.cell? ⟨w.heap.size, 0, none⟩ = some (.int .i32 x.2)) ∧ Below w.heap.size w W))
  (OwnFrom.and (ownFrom_pure _ _) (ownFrom_below (Nat.le_refl _) (Nat.le_refl _)))
  (fun c => OwnFrom.and (Own.from (fun s A B row hs hg hr => by obtain ⟨x, h1, h2, h3⟩ := hs; exact ⟨x, h1, h2, cell_kept h3 hg hr⟩) _) (ownFrom_below (Nat.le_refl _) (by omega)))
  ⟨rfl, Below.refl _ _⟩
  (fun x => { tmps := #[.string s, .int .i64 p, .slice none 0 0, undef, undef, undef, .int .u8 0, .int .i64 0, .int .i64 0, .pointer (some ⟨w.heap.size, 0, none⟩), undef, .int .i32 x.2, undef, undef, undef, undef, undef, undef, .string s, .int .i64 p, .string (s.extract p s.size), .func (.func 253) #[] #[.pointer (some ⟨w.heap.size + 1, 0, none⟩)], .int .i64 x.1, .int .i32 x.2, undef, undef, undef, undef, undef, undef, undef, undef, undef, undef, undef, undef, undef, undef, undef, undef, undef, undef, undef, undef, undef, undef, undef, undef, undef, undef, undef, undef, undef, undef, undef, undef, undef, undef, undef, undef, undef, undef, undef, undef, undef, undef, undef, undef, undef, undef, undef, undef, undef, undef, undef, undef, undef, undef, undef, undef, undef, undef, undef], defers := [] }) ?assign ?body ?done ?stop
 case assign =>
  intro l x W K hK
  gi_wp2
  exact hK
 case body =>
  rintro l pre x W ⟨rfl, hB⟩ _
  have d4 := (hB.block w.heap.size (by omega)).trans b4
  have c4 := Boxed.cell d4
  have f4 := Boxed.frozen d4
  gi_wp2
  exact ⟨KeepsOthers.setCell _ _ _, ⟨x, rfl, rfl, World.cell?_setCell_same' _ _ _ (by rw [c4]; rfl)⟩, (hB0.trans (hB.mono (by omega))).setCell (by simp) _⟩
 case done =>
  rintro D ys W hD rfl ⟨h1, hB⟩ hK
  rw [hlc] at h1
  cases h1
 case stop =>
  rintro D c pre W hD hpre ⟨⟨x, rfl, rfl, h5⟩, hB⟩ hK
  have hx : x.2 = codeFrom s p := by
   obtain ⟨rest, hr⟩ := hpre
   rw [hlc] at hr
   injection hr with h1 _
   rw [h1]
   rfl
  rw [hx] at h5
  clear hx hpre hlc b4 b7
  have hBB := hid hB
  have hK' := hid hK
  clear hB hK
  have hDl : D < W.heap.size := by
   rcases Nat.lt_or_ge D W.heap.size with h | h
   ·exact h
   ·have := hK'.out; rw [Array.getElem?_eq_none h] at this; cases this
  have c76 := letter76 (codeFrom s p) W
  have c77 := digit77 (codeFrom s p) W
  have hW : w.heap.size ≤ W.heap.size := hBB.out.size
  by_cases h10 : codeFrom s p = 10
  ·have hns : startB (codeFrom s p) = false := by rw [h10]; decide
   have hq : (codeFrom s p == 10) = true := by simp [h10]
   gi_wp2
   refine ⟨by simp, .inl ⟨_, _, rfl, run_takeDeferred hK'.out, ?_⟩⟩
   exact ⟨.tuple #[.int .u8 6, .int .i64 (p + 1), .int .i64 0], by simp [results, Tryz.results204, go_sem], ⟨_, _, _, rfl, .other hns (by decide) (fun _ => ⟨p + 1, by omega, by omega, by omega⟩)⟩, hBB.out.trans (belowK_b (w := W0) (by omega) _ D _ _ hD hK'.out rfl rfl)⟩
  have hq10 : (codeFrom s p == 10) = false := by simp [h10]
  have c78 := row78 s p W hs (by omega)
  have A78 : ∀ {e : Ending} {w2 : World}, e = .returned (.int .i64 (p + stopAt (cuts (s.extract p s.size)) (s.size - p) : Nat)) → e = .returned (.int .i64 (wordEnd s p : Nat)) := fun h => h
  gi_wp2
  refine ⟨trivial, ?_⟩
  refine (callsIn_wide.2 c76).mono ?_
  rintro e w' ⟨rfl, hw⟩
  subst w'
  clear c76
  cases hlb : letterB (codeFrom s p)
  rotate_left
  ·have hend := Tk.word (s := s) (p := p) (by unfold startB; rw [hlb]; rfl) hp
   gi_wp2
   refine ⟨trivial, ?_⟩
   refine (callsIn_wide.2 c78).mono ?_
   rintro e w2 ⟨he, hb2⟩
   obtain rfl := A78 (w2 := w2) he
   clear he
   have hK2 := hid (show w2.heap[D]? = some (.deferred (some [])) from (hb2.block D hDl).trans hK'.out)
   have hB2 := hid (hBB.out.trans (hb2.mono hW))
   clear hb2
   gi_wp2
   refine ⟨by simp, .inl ⟨_, _, rfl, run_takeDeferred hK2.out, ?_⟩⟩
   exact ⟨.tuple #[.int .u8 1, .int .i64 (wordEnd s p : Nat), .int .i64 0], by simp [results, Tryz.results204, go_sem], ⟨_, _, _, rfl, hend⟩, hB2.out.trans (belowK_b (w := W0) (by omega) _ D _ _ hD hK2.out rfl rfl)⟩
  by_cases h95' : codeFrom s p = 95
  ·have h95 : (codeFrom s p == 95) = true := by simp [h95']
   have hend := Tk.word (s := s) (p := p) (by unfold startB; rw [h95]; simp) hp
   gi_wp2
   refine ⟨trivial, ?_⟩
   refine (callsIn_wide.2 c78).mono ?_
   rintro e w2 ⟨he, hb2⟩
   obtain rfl := A78 (w2 := w2) he
   clear he
   have hK2 := hid (show w2.heap[D]? = some (.deferred (some [])) from (hb2.block D hDl).trans hK'.out)
   have hB2 := hid (hBB.out.trans (hb2.mono hW))
   clear hb2
   gi_wp2
   refine ⟨by simp, .inl ⟨_, _, rfl, run_takeDeferred hK2.out, ?_⟩⟩
   exact ⟨.tuple #[.int .u8 1, .int .i64 (wordEnd s p : Nat), .int .i64 0], by simp [results, Tryz.results204, go_sem], ⟨_, _, _, rfl, hend⟩, hB2.out.trans (belowK_b (w := W0) (by omega) _ D _ _ hD hK2.out rfl rfl)⟩
  have h95 : (codeFrom s p == 95) = false := by simp [h95']
  have hst : startB (codeFrom s p) = false := by unfold startB; rw [hlb, h95]; rfl
  clear c78
  gi_wp2
  refine ⟨trivial, ?_⟩
  refine (callsIn_wide.2 c77).mono ?_
  rintro e w' ⟨rfl, hw⟩
  subst w'
  clear c77
  cases hdg : digitB (codeFrom s p)
  rotate_left
  ·have hcb : codeFrom s p = ((s[p]'hp).toNat : Int) := code_byte s p hp (by unfold digitB at hdg; simp at hdg; omega) (by unfold digitB at hdg; simp at hdg; omega)
   have c79 := figured79 s p W hs hp (by rw [← hcb]; exact hdg)
   gi_wp2
   refine ⟨trivial, ?_⟩
   refine (callsIn_wide.2 c79).mono ?_
   rintro e w2 ⟨⟨k, rfl, hk1, hk2⟩, hw⟩
   subst w2
   have hk3 := hid (And.intro hk1 hk2)
   clear hk1 hk2
   gi_wp2
   refine ⟨by simp, .inl ⟨_, _, rfl, run_takeDeferred hK'.out, ?_⟩⟩
   exact ⟨.tuple #[.int .u8 2, .int .i64 k, .int .i64 0], by simp [results, Tryz.results204, go_sem], ⟨_, _, _, rfl, .other hst (by decide) (fun _ => ⟨k, rfl, hk3.out⟩)⟩, hBB.out.trans (belowK_b (w := W0) (by omega) _ D _ _ hD hK'.out rfl rfl)⟩
  have c80 := literal80 s p W hs hp
  obtain ⟨z, hz0⟩ : ∃ z, z = (⟨#[]⟩ : ByteArray) := ⟨_, rfl⟩
  have hz : z.toList.isEmpty = true := by rw [hz0, ByteArray.toList_eq]; rfl
  have c81 : Calls Tryz.prog 235 #[.string s, .int .i64 p, .slice none 0 0] W fun e w' => e = .returned (.string z) ∧ w' = W := by rw [hz0]; exact signed81 s p W
  clear hz0
  by_cases h34 : codeFrom s p = 34
  ·have hq34 : (codeFrom s p == 34) = true := by simp [h34]
   gi_wp2
   refine ⟨trivial, ?_⟩
   refine (callsIn_wide.2 c80).mono ?_
   rintro e w2 ⟨⟨k, er, rfl, hk⟩, hb2⟩
   have hK2 := hid (show w2.heap[D]? = some (.deferred (some [])) from (hb2.block D hDl).trans hK'.out)
   have hB2 := hid (hBB.out.trans (hb2.mono hW))
   clear hb2
   have hk' := hid hk
   clear hk
   gi_wp2
   refine ⟨by simp, .inl ⟨_, _, rfl, run_takeDeferred hK2.out, ?_⟩⟩
   exact ⟨.tuple #[.int .u8 3, .int .i64 k, .int .i64 er], by simp [results, Tryz.results204, go_sem], ⟨_, _, _, rfl, .other hst (by decide) hk'.out⟩, hB2.out.trans (belowK_b (w := W0) (by omega) _ D _ _ hD hK2.out rfl rfl)⟩
  have hq34 : (codeFrom s p == 34) = false := by simp [h34]
  by_cases h39 : codeFrom s p = 39
  ·have hq39 : (codeFrom s p == 39) = true := by simp [h39]
   gi_wp2
   refine ⟨trivial, ?_⟩
   refine (callsIn_wide.2 c80).mono ?_
   rintro e w2 ⟨⟨k, er, rfl, hk⟩, hb2⟩
   have hK2 := hid (show w2.heap[D]? = some (.deferred (some [])) from (hb2.block D hDl).trans hK'.out)
   have hB2 := hid (hBB.out.trans (hb2.mono hW))
   clear hb2
   have hk' := hid hk
   clear hk
   gi_wp2
   refine ⟨by simp, .inl ⟨_, _, rfl, run_takeDeferred hK2.out, ?_⟩⟩
   exact ⟨.tuple #[.int .u8 4, .int .i64 k, .int .i64 er], by simp [results, Tryz.results204, go_sem], ⟨_, _, _, rfl, .other hst (by decide) hk'.out⟩, hB2.out.trans (belowK_b (w := W0) (by omega) _ D _ _ hD hK2.out rfl rfl)⟩
  have hq39 : (codeFrom s p == 39) = false := by simp [h39]
  clear c80
  gi_wp2
  refine ⟨trivial, ?_⟩
  refine (callsIn_wide.2 c81).mono ?_
  rintro e w' ⟨rfl, hw⟩
  subst w'
  clear c81
  by_cases hneg : codeFrom s p < 0
  ·have hng : decide (codeFrom s p < 0) = true := by simp [hneg]
   gi_wp2
   refine ⟨by simp, .inl ⟨_, _, rfl, run_takeDeferred hK'.out, ?_⟩⟩
   exact ⟨.tuple #[.int .u8 0, .int .i64 p, .int .i64 13], by simp [results, Tryz.results204, go_sem], ⟨_, _, _, rfl, .other hst (by decide) (fun h => absurd h (by decide))⟩, hBB.out.trans (belowK_b (w := W0) (by omega) _ D _ _ hD hK'.out rfl rfl)⟩
  ·have hng : decide (codeFrom s p < 0) = false := by simp; omega
   gi_wp2
   refine ⟨by simp, .inl ⟨_, _, rfl, run_takeDeferred hK'.out, ?_⟩⟩
   exact ⟨.tuple #[.int .u8 0, .int .i64 p, .int .i64 10], by simp [results, Tryz.results204, go_sem], ⟨_, _, _, rfl, .other hst (by decide) (fun h => absurd h (by decide))⟩, hBB.out.trans (belowK_b (w := W0) (by omega) _ D _ _ hD hK'.out rfl rfl)⟩
end
section
open Go.Shelf
attribute [local go_sem] Oper.semAt_some
/-- is the text one word? -/
def oneWord (s : ByteArray) : Bool := decide (0 < s.size) && startB (codeFrom s 0) && (wordEnd s 0 == s.size)
theorem byte_code (s : ByteArray) (p : Nat) (hp : p < s.size) (h : (s[p]'hp).toNat < 128) : codeFrom s p = ((s[p]'hp).toNat : Int) := by
 have hsz : (s.extract p s.size).size = s.size - p := by simp
 have hg : (s.extract p s.size).get! 0 = s[p]'hp := by
  rw [get_at (s.extract p s.size) 0 (by omega)]
  have := ByteArray.getElem_extract (b := s) (start := p) (stop := s.size) (i := 0) (by omega : 0 < (s.extract p s.size).size)
  simpa using this
 have hd : Utf8.decode (s.extract p s.size) 0 = ((s[p]'hp).toNat, 1) := by
  have h8 : ((s.extract p s.size).get! 0).toNat < 128 := by rw [hg]; exact h
  rw [← hg]
  simp [Utf8.decode, h8]
 unfold codeFrom codeAt lostAt
 rw [hd]
 have : ((s[p]'hp).toNat == 65533) = false := by simp; omega
 simp only [this, Bool.false_and]
 rfl
theorem oneWord_not (s : ByteArray) (h0 : 0 < s.size) (h : (s[0]'h0).toNat = 9 ∨ (s[0]'h0).toNat = 13 ∨ (s[0]'h0).toNat = 32 ∨ (s[0]'h0).toNat = 35) : oneWord s = false := by
 have : startB (codeFrom s 0) = false := by
  rw [byte_code s 0 h0 (by omega)]
  rcases h with h | h | h | h <;> rw [h] <;> decide
 simp [oneWord, this]
structure Fine (s : ByteArray) (k n : Nat) (xs : List Value) : Prop where
 t : oneWord s = true → (k = 0 ∧ n = 0) ∨ (k = s.size ∧ n = 1 ∧ xs = [.int .u8 1, .int .i64 0, .string s])
 f : oneWord s = false → n = 1 → ∀ (kd at' : Int) (txt : ByteArray), xs = [.int .u8 kd, .int .i64 at', .string txt] → ¬ (kd = 1 ∧ txt = s)
 z : n = 0 → xs = []
 one : n = 1 → ∃ (kd at' : Int) (txt : ByteArray), xs = [.int .u8 kd, .int .i64 at', .string txt]
theorem Fine.start (s : ByteArray) : Fine s 0 0 [] := ⟨fun _ => .inl ⟨rfl, rfl⟩, (fun _ h => by cases h), fun _ => rfl, fun h => by cases h⟩
theorem Fine.on {s : ByteArray} {k n : Nat} {xs : List Value} (h : Fine s k n xs) (hk : k < s.size) (k' : Nat) (hb : ∀ h0 : 0 < s.size, k = 0 → (s[0]'h0).toNat = 9 ∨ (s[0]'h0).toNat = 13 ∨ (s[0]'h0).toNat = 32 ∨ (s[0]'h0).toNat = 35) : Fine s k' n xs where
 t := fun hq => by
  rcases h.t hq with ⟨h1, _⟩ | ⟨h1, _⟩
  ·rw [oneWord_not s (by omega) (hb (by omega) h1)] at hq; cases hq
  ·omega
 f := h.f
 z := h.z
 one := h.one
theorem Fine.add {s : ByteArray} {k n : Nat} {xs : List Value} (h : Fine s k n xs) (hk : k < s.size) {kd : Int} {en : Nat} (ht : Tk s k kd en 0) (h1 : k < en) (h2 : en ≤ s.size) : Fine s en (n + 1) (xs ++ [.int .u8 kd, .int .i64 k, .string (s.extract k en)]) where
 t := fun hq => by
  rcases h.t hq with ⟨rfl, rfl⟩ | ⟨h1, _⟩
  ·simp only [oneWord, Bool.and_eq_true, beq_iff_eq, decide_eq_true_eq] at hq
   obtain ⟨e1, _, e2⟩ := ht.2.1 hq.1.2
   have e3 : en = s.size := by omega
   subst e3
   refine .inr ⟨rfl, rfl, ?_⟩
   rw [h.z rfl, e1]
   simp
  ·omega
 f := fun hq hn kd' at' txt hx ⟨hk1, hk2⟩ => by
  have hn0 : n = 0 := by omega
  rw [h.z hn0] at hx
  simp at hx
  obtain ⟨hx1, hx2, hx3⟩ := hx
  have hs : (s.extract k en).size = s.size := by rw [hx3, hk2]
  simp at hs
  have hk0 : k = 0 := by omega
  subst hk0
  have hen : en = s.size := by omega
  cases hst : startB (codeFrom s 0)
  ·exact ht.2.2 hst (by omega)
  ·obtain ⟨_, _, e2⟩ := ht.2.1 hst
   have : oneWord s = true := by
    simp only [oneWord, hst, Bool.and_true, Bool.and_eq_true, beq_iff_eq, decide_eq_true_eq]
    omega
   rw [this] at hq
   cases hq
 z := fun h => by omega
 one := fun hn => by
  have hn0 : n = 0 := by omega
  rw [h.z hn0]
  exact ⟨_, _, _, rfl⟩
/-- what 'Tokens' gives -/
def ToksR (s : ByteArray) (w : World) (e : Ending) (w' : World) : Prop :=
 (∃ (v : Value) (en er : Int), e = .returned (.tuple #[v, .int .i64 en, .int .i64 er]) ∧ (er = 0 → ∃ (n : Nat) (xs : List Value), w'.ownsRow w.heap.size 222 3 v n xs ∧ Fine s s.size n xs) ∧ (er ≠ 0 → oneWord s = true → 32 < s.size)) ∧ Below w.heap.size w w'
theorem idx_pos (s : ByteArray) (k : Nat) (hlt : k < s.size) (h : (s[k]'hlt).toNat = 35) : Lib.indexByte (s.extract k s.size).data.toList (10 : Int).toNat.toUInt8 = -1 ∨ ∃ j : Nat, Lib.indexByte (s.extract k s.size).data.toList (10 : Int).toNat.toUInt8 = j ∧ 1 ≤ j ∧ k + j < s.size := by
 have hsz : (s.extract k s.size).size = s.size - k := by simp
 have hlen : (s.extract k s.size).data.toList.length = s.size - k := by rw [← hsz]; rfl
 have hb := ByteArray.getElem_extract (b := s) (start := k) (stop := s.size) (i := 0) (by omega : 0 < (s.extract k s.size).size)
 have h2 : (s.extract k s.size).data.toList[0]? = some (s[k]'hlt) := by
  rw [List.getElem?_eq_getElem (by omega)]
  exact congrArg some hb
 have hge := Lib.indexByte_ge (s.extract k s.size).data.toList (10 : Int).toNat.toUInt8
 have hne : (s.extract k s.size).data.toList ≠ [] := fun e => by rw [e] at hlen; simp at hlen; omega
 have hlt2 := indexByte_lt _ (10 : Int).toNat.toUInt8 hne
 rw [hlen] at hlt2
 generalize hx : Lib.indexByte (s.extract k s.size).data.toList (10 : Int).toNat.toUInt8 = x at *
 rcases Int.lt_or_le x 0 with hn | hn
 ·exact .inl (by omega)
 ·refine .inr ⟨x.toNat, by omega, ?_, by omega⟩
  rcases Int.lt_or_le 0 x with hp | hp
  ·omega
  ·exfalso
   obtain rfl : x = 0 := by omega
   revert hx h2
   cases (s.extract k s.size).data.toList with
   | nil => intro h2; simp at h2
   | cons b l =>
    intro h2 hx
    simp only [Lib.indexByte] at hx
    have : b = s[k]'hlt := by simpa using h2
    split at hx
    ·rename_i he
     have he : b = (10 : Int).toNat.toUInt8 := by simpa using he
     rw [← this, he] at h
     revert h
     decide
    ·have := Lib.indexByte_ge l (10 : Int).toNat.toUInt8
     split at hx
     ·cases hx
     ·rename_i hh
      have : Lib.indexByte l (10 : Int).toNat.toUInt8 ≠ -1 := by simpa using hh
      omega
theorem ownsRow_on {B : Nat} {t : TypeId} {m : Nat} {v : Value} {n : Nat} {xs : List Value} {w w' : World} (h : w.ownsRow B t m v n xs) (hb : Below w.heap.size w w') : w'.ownsRow B t m v n xs := by
 refine h.kept (grown_of_below hb) ?_
 cases h : v.ownBlock
 ·exact .inl rfl
 ·exact .inr (by simp)
set_option maxHeartbeats 4000000 in
theorem tokens42 (s : ByteArray) (w : World) (hs : s.size ≤ 1048576) : Calls Tryz.prog 165 #[.string s, .slice none 0 0] w (ToksR s w) := by
  have hfit := fit54 w
  go_enter Tryz.func165, Tryz.ntmps165
  go_wp2_with fail
  go_step3
  go_wp2_with fail
  refine hfit.mono ?_
  rintro e w2 ⟨rfl, hw⟩
  subst w2
  by_cases hbig : 524288 < s.size
  · go_wp2_with fail
    rw [Exit.noGoto_ret]
    go_ret3
    exact ⟨⟨_, _, _, rfl, (fun h => by cases h), fun _ _ => by omega⟩, Below.refl _ _⟩
  go_wp2_with fail
  go_step3
  go_wp2_with fail
  go_loopw [7, 8] (fun x y wr => ∃ (k n : Nat) (xs : List Value), y = .int .i64 k ∧ k ≤ s.size ∧ n ≤ k ∧ wr.ownsRow w.heap.size 222 3 x n xs ∧ Fine s k n xs ∧ Below w.heap.size w wr) (fun _ y _ => s.size - (intOf y).toNat)
  case atStart => exact ⟨0, 0, [], rfl, by omega, by omega, World.ownsRow_nil _ _ _ _, Fine.start s, Below.refl _ _⟩
  case round =>
    obtain ⟨k, n, xs, rfl, hk, hnk, hown, hF, hb⟩ := hrel
    have hO := hid hown
    have hF' := hid hF
    have hB := hid hb
    clear hown hF hb
    by_cases hlt : k < s.size
    rotate_left
    · obtain rfl : k = s.size := by omega
      go_wp2_with fail
      rw [Exit.noGoto_ret]
      go_ret3
      exact ⟨⟨_, _, _, rfl, fun _ => ⟨n, xs, hO.out, hF'.out⟩, fun h => absurd rfl h⟩, hB.out⟩
    by_cases hblank : (s[k]'hlt).toNat = 9 ∨ (s[k]'hlt).toNat = 13 ∨ (s[k]'hlt).toNat = 32
    · have hF2 := hid (hF'.out.on hlt (k + 1) (fun h0 e => by subst e; omega))
      rcases hblank with h | h | h
      all_goals
        have hbv : ((s[k]'hlt).toNat : Int) = _ := congrArg (Nat.cast (R := Int)) h
        go_wp2_with fail
        all_goals first
          | (go_roundw
             case rel => exact ⟨k + 1, n, xs, by go_num, by omega, by omega, hO.out, hF2.out, hB.out⟩
             case measure => simp [intOf]; omega)
          | (exfalso; simp_all; done)
    have hnb : (s[k]'hlt).toNat ≠ 9 ∧ (s[k]'hlt).toNat ≠ 13 ∧ (s[k]'hlt).toNat ≠ 32 := by omega
    have hq1 : (((s[k]'hlt).toNat : Int) == 9) = false := by simp; omega
    have hq2 : (((s[k]'hlt).toNat : Int) == 13) = false := by simp; omega
    have hq3 : (((s[k]'hlt).toNat : Int) == 32) = false := by simp; omega
    by_cases h35 : (s[k]'hlt).toNat = 35
    · have hq4 : (((s[k]'hlt).toNat : Int) == 35) = true := by simp [h35]
      have c55 := index55 (s.extract k s.size) 10 wr
      rcases idx_pos s k hlt h35 with hx | ⟨j, hx, hj1, hj2⟩
      · rw [hx] at c55
        go_wp2_with (go_at_call 203; refine c55.mono ?_; rintro e w' ⟨rfl, hw⟩; subst w')
        rw [Exit.noGoto_ret]
        go_ret3
        refine ⟨⟨_, _, _, rfl, (fun _ => ⟨n, xs, hO.out, hF'.out.on hlt _ (fun h0 e => by subst e; omega)⟩), fun h => absurd rfl h⟩, hB.out⟩
      · rw [hx] at c55
        go_wp2_with (go_at_call 203; refine c55.mono ?_; rintro e w' ⟨rfl, hw⟩; subst w')
        go_roundw
        case rel => exact ⟨k + j, n, xs, by go_num, by omega, by omega, hO.out, hF'.out.on hlt _ (fun h0 e => by subst e; omega), hB.out⟩
        case measure => simp [intOf]; omega
    have hq4 : (((s[k]'hlt).toNat : Int) == 35) = false := by simp; omega
    have c56 := token56 s k wr hs hlt
    go_wp2_with fail
    refine c56.mono ?_
    rintro e w2 ⟨⟨kd, en, er, rfl, ht⟩, hb2⟩
    have hO2 := hid (ownsRow_on hO.out hb2)
    have hB2 := hid (hB.out.trans (hb2.mono hB.out.size))
    have ht' := hid ht
    clear hb2 ht
    by_cases her : er = 0
    rotate_left
    · have hq5 : (er != 0) = true := by simpa using her
      go_wp2_with fail
      rw [Exit.noGoto_ret]
      go_ret3
      refine ⟨⟨_, _, _, rfl, (fun h => absurd h her), fun _ hq => ?_⟩, hB2.out⟩
      exfalso
      rcases hF'.out.t hq with ⟨rfl, _⟩ | ⟨h1, _⟩
      · simp only [oneWord, Bool.and_eq_true] at hq
        exact her (ht'.out.2.1 hq.1.2).2.1
      · omega
    subst her
    obtain ⟨m, hm, h1, h2⟩ := ht'.out.1 rfl
    subst hm
    have hF2 := hid (hF'.out.add hlt ht'.out h1 h2)
    have hsz2 : w.heap.size ≤ w2.heap.size := hB2.out.size
    go_wp2_with (at_builtin; refine wpList_append_str rfl _ _ 217 rfl w.heap.size 222 222 (.agg #[.int .u8 0, .int .i64 0, .string ⟨#[]⟩]) 3 32 1 Tryz.underlying217 (by kernel_rfl) rfl (by decide) _ n _ [_, _, _] (0, 0) hO2.out rfl (by simp [Value.oneCell']) (by unfold maxLen; omega) (by omega) hsz2 rfl rfl ?_; intro v' w3 hA; have hOw := hid hA.own; have hGr := hid hA.grown; clear hA)
    go_roundw
    case rel => exact ⟨m, n + 1, _, rfl, h2, by omega, hOw.out, hF2.out, hB2.out.grown hGr.out hsz2 (fun k hk => (hO2.out.lt k hk).1)⟩
    case measure => simp [intOf]; omega
end
section
open Go.Shelf
attribute [local go_sem] Oper.semAt_some
/-- a name: one word, of at most 32 bytes, not a reserved one -/
def nameOk (s : ByteArray) : Bool := oneWord s && !inList resL s && decide (s.size ≤ 32)
theorem row_forms {w : World} {base size n : Nat} {e : TypeId} {v : Value} {xs : List Value} (h : w.ownsRow base e size v n xs) : (v = .slice none 0 0 ∧ n = 0) ∨ ∃ g cap, v = .slice (some ⟨g, 0, none⟩) n cap := by
 rcases h.2 with ⟨h1, h2⟩ | ⟨g, cap, _, h1, _⟩
 ·exact .inl ⟨h1, by first | exact h2 | omega⟩
 ·exact .inr ⟨g, cap, h1⟩
set_option maxHeartbeats 1000000 in
theorem named43 (kd at' : Int) (txt : ByteArray) (w : World) (hs : txt.size ≤ 1048576) : Calls Tryz.prog 166 #[.agg #[.int .u8 kd, .int .i64 at', .string txt]] w fun e w' => e = .returned (.bool (kd == 1 && !inList resL txt && decide (txt.size ≤ 32))) ∧ Below w.heap.size w w' := by
 have hcall := hid (reserved57 txt (w.alloc (.cells #[.int .u8 kd, .int .i64 at', .string txt] 222)))
 have hX := hid (Bx.new w #[.int .u8 kd, .int .i64 at', .string txt] 222)
 go_enter Tryz.func166, Tryz.ntmps166
 cases hk : kd == 1
 ·go_wp2_with fail
  go_ret
  exact ⟨ret_bool (by simp), (Below.refl _ _).alloc (Nat.le_refl _) _⟩
 ·go_wp2_with fail
  refine hcall.out.mono ?_
  rintro e w2 ⟨rfl, hb⟩
  have hX2 := hX.out.on (grown_of_below hb) (by simp)
  have p2 := hX2.cell 2
  have hB := hid (((Below.refl w.heap.size w).alloc (Nat.le_refl _) (.cells #[.int .u8 kd, .int .i64 at', .string txt] 222)).trans (hb.mono (by simp)))
  clear hb hX2
  cases hr : inList resL txt
  ·go_wp2_with fail
   go_ret
   refine ⟨ret_bool ?_, hB.out⟩
   by_cases h32 : txt.size ≤ 32
   ·simp [h32, hr]
    try omega
   ·simp [h32, hr]
    try omega
  ·go_wp2_with fail
   go_ret
   exact ⟨ret_bool (by simp [hr]), hB.out⟩
theorem toList_refl (s : ByteArray) : (s.toList == s.toList) = true := by simp
theorem toList_ne {a b : ByteArray} (h : a ≠ b) : (a.toList == b.toList) = false := by
 simp only [beq_eq_false_iff_ne, ne_eq, ByteArray.toList_eq]
 intro e
 exact h (ByteArray.ext (by rw [← Array.toList_inj]; exact e))
set_option maxHeartbeats 2000000 in
theorem isName29 (s : ByteArray) (w : World) (hs : s.size ≤ 1048576) : Calls Tryz.prog 134 #[.string s] w fun e w' => e = .returned (.bool (nameOk s)) ∧ Below w.heap.size w w' := by
 have hcall := hid (tokens42 s w hs)
 go_enter Tryz.func134, Tryz.ntmps134
 go_wp2_with fail
 refine hcall.out.mono ?_
 rintro e w2 ⟨⟨v, en, er, rfl, h0, h1⟩, hb⟩
 have hB := hid hb
 clear hb hcall
 by_cases her : er = 0
 rotate_left
 ·have hq : (er == 0) = false := by simpa using her
  have h1' := hid (h1 her)
  clear h0 h1
  go_wp2_with fail
  go_ret
  refine ⟨ret_bool ?_, hB.out⟩
  unfold nameOk
  cases ho : oneWord s
  ·rfl
  ·have := h1'.out ho
   have h2 : decide (s.size ≤ 32) = false := by simp; omega
   simp [h2]
 obtain ⟨n, xs, hO, hF⟩ := h0 her
 subst her
 clear h1 h0
 have hF' := hid hF
 clear hF
 have hname : Hid (n ≠ 1 → oneWord s = false) := hid (fun hn => by
  cases ho : oneWord s
  ·rfl
  ·rcases hF'.out.t ho with ⟨h1, _⟩ | ⟨_, h2, _⟩
   ·simp only [oneWord, Bool.and_eq_true, decide_eq_true_eq] at ho; omega
   ·exact absurd h2 hn)
 rcases row_forms hO with ⟨rfl, rfl⟩ | ⟨g, cap, rfl⟩
 ·clear hO
  go_wp2_with fail
  go_ret
  exact ⟨ret_bool (by simp [nameOk, hname.out (by decide)]), hB.out⟩
 have hcap := hO.1
 by_cases hn : n = 1
 rotate_left
 ·have hq : ((n : Int) == 1) = false := by simp; omega
  have hO' := hid hO
  clear hO hcap
  go_wp2_with fail
  go_ret
  exact ⟨ret_bool (by simp [nameOk, hname.out hn]), hB.out⟩
 subst hn
 obtain ⟨kd, at', txt, rfl⟩ := hF'.out.one rfl
 have p0 : w2.cell? ⟨g, 0, none⟩ = some (.int .u8 kd) := (hO.cellAt 0 (by decide)).trans rfl
 have p1 : w2.cell? ⟨g, 1, none⟩ = some (.int .i64 at') := (hO.cellAt 1 (by decide)).trans rfl
 have p2 : w2.cell? ⟨g, 2, none⟩ = some (.string txt) := (hO.cellAt 2 (by decide)).trans rfl
 clear hO hcap
 by_cases ht : txt = s
 rotate_left
 ·have hq := toList_ne ht
  go_wp2_with fail
  go_ret
  refine ⟨ret_bool ?_, hB.out⟩
  cases ho : oneWord s
  ·simp [nameOk, ho]
  ·rcases hF'.out.t ho with ⟨_, h2⟩ | ⟨_, _, h3⟩
   ·cases h2
   ·simp at h3
    exact absurd h3.2.2 ht
 subst ht
 have hq := toList_refl txt
 have hcall2 := hid (named43 kd at' txt w2 hs)
 go_wp2_with fail
 refine hcall2.out.mono ?_
 rintro e w3 ⟨rfl, hb3⟩
 have hB3 := hid (hB.out.trans (hb3.mono hB.out.size))
 clear hb3
 go_wp2_with fail
 go_ret
 refine ⟨ret_bool ?_, hB3.out⟩
 have hk : (kd == 1) = oneWord txt := by
  cases ho : oneWord txt
  ·have := hF'.out.f ho rfl kd at' txt rfl
   simp at this
   simpa using this
  ·rcases hF'.out.t ho with ⟨_, h2⟩ | ⟨_, _, h3⟩
   ·cases h2
   ·simp at h3
    simp [h3.1]
 unfold nameOk
 rw [hk]
 try simp
end
section
open Go.Shelf
attribute [local go_sem] Oper.semAt_some
/-- where the first rune lies that is none of a name, from a place on -/
def stopFrom (s : ByteArray) (p : Nat) : Nat := match (cutsN s (s.size - p) p).find? (fun x => !nameB x.2) with
 | some x => x.1
 | none => s.size
theorem stopFrom_le (s : ByteArray) (p : Nat) (hp : p ≤ s.size) : p ≤ stopFrom s p ∧ stopFrom s p ≤ s.size := by
 unfold stopFrom
 split
 ·rename_i x hx
  have h2 := List.mem_of_find?_eq_some hx
  exact ⟨cutsN_ge s _ _ x h2, Nat.le_of_lt (cutsN_lt s _ _ x h2)⟩
 ·exact ⟨hp, Nat.le_refl _⟩
end
section
open Go.Shelf
attribute [local go_sem] Oper.semAt_some
open Go.Shelf
attribute [local go_sem] Oper.semAt_some
open Go.Shelf
attribute [local go_sem] Oper.semAt_some
end
section
open Go.Shelf
attribute [local go_sem] Oper.semAt_some
open Go.Shelf
attribute [local go_sem] Oper.semAt_some
/-- where the blanks and comments end -/
def PassR (s : ByteArray) (p k : Nat) : Prop := p ≤ k ∧ k ≤ s.size ∧ (k = p ∨ ∀ h0 : 0 < s.size, p = 0 → (s[0]'h0).toNat = 9 ∨ (s[0]'h0).toNat = 13 ∨ (s[0]'h0).toNat = 32 ∨ (s[0]'h0).toNat = 35)
theorem PassR.step {s : ByteArray} {p k j : Nat} (h : PassR s p k) (hk : k < s.size) (hj : k < j) (hj2 : j ≤ s.size) (hb : (s[k]'hk).toNat = 9 ∨ (s[k]'hk).toNat = 13 ∨ (s[k]'hk).toNat = 32 ∨ (s[k]'hk).toNat = 35) : PassR s p j := by
 obtain ⟨h1, h2, h3⟩ := h
 refine ⟨by omega, hj2, .inr fun h0 hp => ?_⟩
 rcases h3 with rfl | h3
 ·subst hp; exact hb
 ·exact h3 h0 hp
open Go.Shelf
attribute [local go_sem] Oper.semAt_some
end
section
open Go.Shelf
attribute [local go_sem] Oper.semAt_some
def TkQ (s : ByteArray) (p : Nat) (kd at' : Int) (txt : ByteArray) (er : Int) : Prop :=
 (er = 0 → at' = p ∧ ∃ n : Nat, txt = s.extract p n ∧ p < n ∧ n ≤ s.size) ∧ (p = 0 → startB (codeAt s 0) = true → kd = 1 ∧ er = 0 ∧ txt = s.extract 0 (stopFrom s 0)) ∧ (p = 0 → startB (codeAt s 0) = false → kd ≠ 1)
theorem TkQ.plain {s : ByteArray} {p : Nat} {kd at' : Int} {txt : ByteArray} {er : Int} (hp : p < s.size) (h1 : er = 0 → at' = p ∧ ∃ n : Nat, txt = s.extract p n ∧ p < n ∧ n ≤ s.size) (hk : kd ≠ 1) (hn : startB (codeAt s p) = false) : TkQ s p kd at' txt er :=
 ⟨h1, (fun h hs => by subst h; rw [hn] at hs; cases hs), fun _ _ => hk⟩
theorem TkQ.word {s : ByteArray} {p : Nat} (hp : p < s.size) (hn : startB (codeAt s p) = true) (hw : p < stopFrom s p) : TkQ s p 1 p (s.extract p (stopFrom s p)) 0 :=
 ⟨fun _ => ⟨rfl, _, rfl, hw, (stopFrom_le s p (Nat.le_of_lt hp)).2⟩, (fun h _ => by subst h; exact ⟨rfl, rfl, rfl⟩), fun h hs => by subst h; rw [hn] at hs; cases hs⟩
open Go.Shelf
attribute [local go_sem] Oper.semAt_some
theorem lit_toList (l : List UInt8) : (⟨l.toArray⟩ : ByteArray).toList = l := by rw [ByteArray.toList_eq]
open Go.Shelf
attribute [local go_sem] Oper.semAt_some
end
end Go.Proofs.YtlabadkfkbenoaaGreatDoor
