/- Walks and plain laws, merged: TokI TokJ TokL RefD RefG RefJ RefM TreeQ TreeR. No condition. -/
import Derived.Test.YtlabadkfkbenoaaGreatDoorProg
import Derived.Test.YtlabadkfkbenoaaGreatDoorKm03
import Derived.WalkMore
import Derived.Test.YtlabadkfkbenoaaGreatDoorKm01
import Derived.Laws.BytesArg
import Derived.Outline
namespace Go.Proofs.YtlabadkfkbenoaaGreatDoor
open Go.RowKit
set_option linter.unusedVariables false
set_option linter.unusedSimpArgs false
set_option maxRecDepth 100000
set_option maxHeartbeats 64000000
section
open Go.Shelf
attribute [local go_sem] Oper.semAt_some
def startB (c : Int) : Bool := letterB c || c == 95
def codeFrom (s : ByteArray) (p : Nat) : Int := codeAt (s.extract p s.size) 0
def wordEnd (s : ByteArray) (p : Nat) : Nat := p + stopAt (cuts (s.extract p s.size)) (s.size - p)
theorem cuts_first (s : ByteArray) (h : 0 < s.size) : ∃ l, cuts s = (0, codeAt s 0) :: l := by
 unfold cuts
 obtain ⟨n, hn⟩ : ∃ n, s.size = n + 1 := ⟨s.size - 1, by omega⟩
 rw [hn]
 simp only [cutsN]
 rw [if_pos (by omega)]
 exact ⟨_, rfl⟩
theorem stop_pos {l : List (Nat × Int)} {c : Int} {s : ByteArray} (hl : cuts s = (0, c) :: l) (hc : nameB c = true) (h0 : ∀ n i (x : Nat × Int), x ∈ cutsN s n i → i ≤ x.1) : 0 < s.size → 0 < stopAt (cuts s) s.size ∧ stopAt (cuts s) s.size ≤ s.size := by
 intro hs
 unfold stopAt
 split
 ·rename_i x hx
  have h1 := List.find?_some hx
  have h2 := List.mem_of_find?_eq_some hx
  refine ⟨?_, by have := cuts_lt s x h2; omega⟩
  rw [hl] at h2
  rcases List.mem_cons.1 h2 with rfl | h3
  ·simp [hc] at h1
  ·unfold cuts at hl
   obtain ⟨n, hn⟩ : ∃ n, s.size = n + 1 := ⟨s.size - 1, by omega⟩
   rw [hn] at hl
   simp only [cutsN] at hl
   rw [if_pos (by omega)] at hl
   injection hl with _ hl
   rw [← hl] at h3
   have := h0 _ _ _ h3
   have := decode_wide s 0
   omega
 ·omega
theorem cutsN_ge (s : ByteArray) : ∀ n i (x : Nat × Int), x ∈ cutsN s n i → i ≤ x.1
 | 0, _, _, h => by cases h
 | n + 1, i, x, h => by
  simp only [cutsN] at h
  split at h
  ·rcases List.mem_cons.1 h with rfl | h'
   ·exact Nat.le_refl _
   ·have := cutsN_ge s n _ x h'
    omega
  ·cases h
theorem wordEnd_gt (s : ByteArray) (p : Nat) (hp : p < s.size) (hc : nameB (codeFrom s p) = true) : p < wordEnd s p ∧ wordEnd s p ≤ s.size := by
 have hsz : (s.extract p s.size).size = s.size - p := by simp
 obtain ⟨l, hl⟩ := cuts_first (s.extract p s.size) (by omega)
 have := stop_pos hl hc (cutsN_ge _) (by omega)
 rw [hsz] at this
 unfold wordEnd
 omega
theorem code_byte (s : ByteArray) (p : Nat) (hp : p < s.size) (h : 0 ≤ codeFrom s p) (h2 : codeFrom s p < 128) : codeFrom s p = ((s[p]'hp).toNat : Int) := by
 have hsz : (s.extract p s.size).size = s.size - p := by simp
 have hg : (s.extract p s.size).get! 0 = s[p]'hp := by
  rw [get_at (s.extract p s.size) 0 (by omega)]
  have := ByteArray.getElem_extract (b := s) (start := p) (stop := s.size) (i := 0) (by omega : 0 < (s.extract p s.size).size)
  simpa using this
 unfold codeFrom codeAt at h h2 ⊢
 split at h
 ·omega
 ·rename_i hn
  rw [if_neg hn] at h2 ⊢
  have hb : ∀ k, ((s.extract p s.size).get! (0 + k)).toNat < 256 := fun k => ((s.extract p s.size).get! (0 + k)).toNat_lt
  have h0 := hb 0; have h1 := hb 1; have h3 := hb 2; have h4 := hb 3
  rw [← hg]
  revert h h2
  simp only [Utf8.decode]
  repeat' split
  all_goals simp_all [Utf8.runeError, Utf8.valid]
  all_goals omega
def Tk (s : ByteArray) (p : Nat) (kd en er : Int) : Prop :=
 (er = 0 → ∃ n : Nat, en = n ∧ p < n ∧ n ≤ s.size) ∧ (startB (codeFrom s p) = true → kd = 1 ∧ er = 0 ∧ en = (wordEnd s p : Nat)) ∧ (startB (codeFrom s p) = false → kd ≠ 1)
def TkR (s : ByteArray) (p : Nat) (w : World) (e : Ending) (w' : World) : Prop :=
 (∃ kd en er : Int, e = .returned (.tuple #[.int .u8 kd, .int .i64 en, .int .i64 er]) ∧ Tk s p kd en er) ∧ Below w.heap.size w w'
theorem Tk.word {s : ByteArray} {p : Nat} (hs : startB (codeFrom s p) = true) (hp : p < s.size) : Tk s p 1 (wordEnd s p : Nat) 0 := by
 have h := wordEnd_gt s p hp (by unfold startB at hs; unfold nameB; revert hs; cases letterB (codeFrom s p) <;> simp <;> intro h <;> simp [h])
 exact ⟨fun _ => ⟨_, rfl, h⟩, fun _ => ⟨rfl, rfl, rfl⟩, fun h => by rw [hs] at h; cases h⟩
theorem Tk.other {s : ByteArray} {p : Nat} {kd en er : Int} (hs : startB (codeFrom s p) = false) (hk : kd ≠ 1) (h : er = 0 → ∃ n : Nat, en = n ∧ p < n ∧ n ≤ s.size) : Tk s p kd en er :=
 ⟨h, fun h => (by rw [hs] at h; cases h), fun _ => hk⟩
theorem token56 (s : ByteArray) (p : Nat) (w : World) (hs : s.size ≤ 1048576) (hp : p < s.size) : Calls Tryz.prog 204 #[.string s, .int .i64 p, .slice none 0 0] w (TkR s p w) := by
 refine (callsIn_wide (n := 5)).1 ?_
 refine callsIn_of_wp_marks Tryz.func204 rfl trivial ?_ rfl
 simp only [Tryz.ntmps204, List.size_toArray, List.length_cons, List.length_nil, Nat.reduceAdd, Nat.reduceSub, Array.replicate_succ, Array.replicate_zero, List.push_toArray, List.append_toArray, List.nil_append, List.cons_append]
 gi_wp2_with (refine ⟨trivial, ?_⟩; gi_at_call 228; refine (callsIn_wide.2 (cutting74 _ _)).mono ?_; rintro e w' ⟨rfl, rfl⟩)
 obtain ⟨W0, hW0⟩ : ∃ W0, W0 = (w.alloc (.cells #[.int .i32 (-1)] 21)).alloc (.cells #[.string (s.extract p s.size)] 9) := ⟨_, rfl⟩
 rw [← hW0]
 have hsz : W0.heap.size = w.heap.size + 2 := by rw [hW0]; simp
 have hB0 : Below w.heap.size w W0 := by rw [hW0]; exact ((Below.refl _ w).alloc (Nat.le_refl _) _).alloc (by simp) _
 have b4 : Boxed W0 w.heap.size 21 (.int .i32 (-1)) := by rw [hW0]; exact (Boxed.new w 21 _).alloc _
 have b7 : Boxed W0 (w.heap.size + 1) 9 (.string (s.extract p s.size)) := by
  rw [hW0]; have := Boxed.new (w.alloc (.cells #[.int .i32 (-1)] 21)) 9 (.string (s.extract p s.size)); simpa using this
 clear hW0
 have hext : (s.extract p s.size).size = s.size - p := by simp
 obtain ⟨lc, hlc⟩ := cuts_first (s.extract p s.size) (by omega)
 refine wpIn_rangeFunc_ownF (w0 := W0) rfl (by omega) (gf := 253) (lb := #[.pointer (some ⟨w.heap.size + 1, 0, none⟩)]) rfl trivial (enters_of Tryz.func253 (by kernel_rfl) rfl)
  (cut_stops 4 (by omega) (w.heap.size + 1) W0.heap.size (s.extract p s.size) (by simp; omega) W0 (by omega) (Nat.le_refl _) b7.cell) Kc.t (Kc.b (Nat.le_refl _)) (Below.refl _ _) (fun _ => rfl)
  (fun pre W => pre = [] ∧ Below W0.heap.size W0 W)
  (fun c pre W => ((∃ x, c = .exit 0 ∧ pre = [x] ∧ W.cell? ⟨w.heap.size, 0, none⟩ = some (.int .i32 x.2)) ∧ Below w.heap.size w W))
  (OwnFrom.and (ownFrom_pure _ _) (ownFrom_below (Nat.le_refl _) (Nat.le_refl _)))
  (fun c => OwnFrom.and (Own.from (fun s A B row hs hg hr => by obtain ⟨x, h1, h2, h3⟩ := hs; exact ⟨x, h1, h2, cell_kept h3 hg hr⟩) _) (ownFrom_below (Nat.le_refl _) (by omega)))
  ⟨rfl, Below.refl _ _⟩
  (fun x => { tmps := #[.string s, .int .i64 p, .slice none 0 0, undef, undef, undef, .int .u8 0, .int .i64 0, .int .i64 0, .pointer (some ⟨w.heap.size, 0, none⟩), undef, .int .i32 x.2, undef, undef, undef, undef, undef, undef, .string s, .int .i64 p, .string (s.extract p s.size), .func (.func 253) #[] #[.pointer (some ⟨w.heap.size + 1, 0, none⟩)], .int .i64 x.1, .int .i32 x.2, undef, undef, undef, undef, undef, undef, undef, undef, undef, undef, undef, undef, undef, undef, undef, undef, undef, undef, undef, undef, undef, undef, undef, undef, undef, undef, undef, undef, undef, undef, undef, undef, undef, undef, undef, undef, undef, undef, undef, undef, undef, undef, undef, undef, undef, undef, undef, undef, undef, undef, undef, undef, undef, undef, undef, undef, undef, undef, undef], defers := [] }) ?assign ?body ?done ?stop
 case assign =>
  intro l x W K hK
  gi_wp2
  exact hK
 case body =>
  rintro l pre x W ⟨rfl, hB⟩ _
  have d4 := (hB.block w.heap.size (by omega)).trans b4
  have c4 := Boxed.cell d4
  have f4 := Boxed.frozen d4
  gi_wp2
  exact ⟨KeepsOthers.setCell _ _ _, ⟨x, rfl, rfl, World.cell?_setCell_same' _ _ _ (by rw [c4]; rfl)⟩, (hB0.trans (hB.mono (by omega))).setCell (by simp) _⟩
 case done =>
  rintro D ys W hD rfl ⟨h1, hB⟩ hK
  rw [hlc] at h1
  cases h1
 case stop =>
  rintro D c pre W hD hpre ⟨⟨x, rfl, rfl, h5⟩, hB⟩ hK
  have hx : x.2 = codeFrom s p := by
   obtain ⟨rest, hr⟩ := hpre
   rw [hlc] at hr
   injection hr with h1 _
   rw [h1]
   rfl
  rw [hx] at h5
  clear hx hpre hlc b4 b7
  have hBB := hid hB
  have hK' := hid hK
  clear hB hK
  have hDl : D < W.heap.size := by
   rcases Nat.lt_or_ge D W.heap.size with h | h
   ·exact h
   ·have := hK'.out; rw [Array.getElem?_eq_none h] at this; cases this
  have c76 := letter76 (codeFrom s p) W
  have c77 := digit77 (codeFrom s p) W
  have hW : w.heap.size ≤ W.heap.size := hBB.out.size
  by_cases h10 : codeFrom s p = 10
  ·have hns : startB (codeFrom s p) = false := by rw [h10]; decide
   have hq : (codeFrom s p == 10) = true := by simp [h10]
   gi_wp2
   refine ⟨by simp, .inl ⟨_, _, rfl, run_takeDeferred hK'.out, ?_⟩⟩
   exact ⟨.tuple #[.int .u8 6, .int .i64 (p + 1), .int .i64 0], by simp [results, Tryz.results204, go_sem], ⟨_, _, _, rfl, .other hns (by decide) (fun _ => ⟨p + 1, by omega, by omega, by omega⟩)⟩, hBB.out.trans (belowK_b (w := W0) (by omega) _ D _ _ hD hK'.out rfl rfl)⟩
  have hq10 : (codeFrom s p == 10) = false := by simp [h10]
  have c78 := row78 s p W hs (by omega)
  have A78 : ∀ {e : Ending} {w2 : World}, e = .returned (.int .i64 (p + stopAt (cuts (s.extract p s.size)) (s.size - p) : Nat)) → e = .returned (.int .i64 (wordEnd s p : Nat)) := fun h => h
  gi_wp2
  refine ⟨trivial, ?_⟩
  refine (callsIn_wide.2 c76).mono ?_
  rintro e w' ⟨rfl, hw⟩
  subst w'
  clear c76
  cases hlb : letterB (codeFrom s p)
  rotate_left
  ·have hend := Tk.word (s := s) (p := p) (by unfold startB; rw [hlb]; rfl) hp
   gi_wp2
   refine ⟨trivial, ?_⟩
   refine (callsIn_wide.2 c78).mono ?_
   rintro e w2 ⟨he, hb2⟩
   obtain rfl := A78 (w2 := w2) he
   clear he
   have hK2 := hid (show w2.heap[D]? = some (.deferred (some [])) from (hb2.block D hDl).trans hK'.out)
   have hB2 := hid (hBB.out.trans (hb2.mono hW))
   clear hb2
   gi_wp2
   refine ⟨by simp, .inl ⟨_, _, rfl, run_takeDeferred hK2.out, ?_⟩⟩
   exact ⟨.tuple #[.int .u8 1, .int .i64 (wordEnd s p : Nat), .int .i64 0], by simp [results, Tryz.results204, go_sem], ⟨_, _, _, rfl, hend⟩, hB2.out.trans (belowK_b (w := W0) (by omega) _ D _ _ hD hK2.out rfl rfl)⟩
  by_cases h95' : codeFrom s p = 95
  ·have h95 : (codeFrom s p == 95) = true := by simp [h95']
   have hend := Tk.word (s := s) (p := p) (by unfold startB; rw [h95]; simp) hp
   gi_wp2
   refine ⟨trivial, ?_⟩
   refine (callsIn_wide.2 c78).mono ?_
   rintro e w2 ⟨he, hb2⟩
   obtain rfl := A78 (w2 := w2) he
   clear he
   have hK2 := hid (show w2.heap[D]? = some (.deferred (some [])) from (hb2.block D hDl).trans hK'.out)
   have hB2 := hid (hBB.out.trans (hb2.mono hW))
   clear hb2
   gi_wp2
   refine ⟨by simp, .inl ⟨_, _, rfl, run_takeDeferred hK2.out, ?_⟩⟩
   exact ⟨.tuple #[.int .u8 1, .int .i64 (wordEnd s p : Nat), .int .i64 0], by simp [results, Tryz.results204, go_sem], ⟨_, _, _, rfl, hend⟩, hB2.out.trans (belowK_b (w := W0) (by omega) _ D _ _ hD hK2.out rfl rfl)⟩
  have h95 : (codeFrom s p == 95) = false := by simp [h95']
  have hst : startB (codeFrom s p) = false := by unfold startB; rw [hlb, h95]; rfl
  clear c78
  gi_wp2
  refine ⟨trivial, ?_⟩
  refine (callsIn_wide.2 c77).mono ?_
  rintro e w' ⟨rfl, hw⟩
  subst w'
  clear c77
  cases hdg : digitB (codeFrom s p)
  rotate_left
  ·have hcb : codeFrom s p = ((s[p]'hp).toNat : Int) := code_byte s p hp (by unfold digitB at hdg; simp at hdg; omega) (by unfold digitB at hdg; simp at hdg; omega)
   have c79 := figured79 s p W hs hp (by rw [← hcb]; exact hdg)
   gi_wp2
   refine ⟨trivial, ?_⟩
   refine (callsIn_wide.2 c79).mono ?_
   rintro e w2 ⟨⟨k, rfl, hk1, hk2⟩, hw⟩
   subst w2
   have hk3 := hid (And.intro hk1 hk2)
   clear hk1 hk2
   gi_wp2
   refine ⟨by simp, .inl ⟨_, _, rfl, run_takeDeferred hK'.out, ?_⟩⟩
   exact ⟨.tuple #[.int .u8 2, .int .i64 k, .int .i64 0], by simp [results, Tryz.results204, go_sem], ⟨_, _, _, rfl, .other hst (by decide) (fun _ => ⟨k, rfl, hk3.out⟩)⟩, hBB.out.trans (belowK_b (w := W0) (by omega) _ D _ _ hD hK'.out rfl rfl)⟩
  have c80 := literal80 s p W hs hp
  obtain ⟨z, hz0⟩ : ∃ z, z = (⟨#[]⟩ : ByteArray) := ⟨_, rfl⟩
  have hz : z.toList.isEmpty = true := by rw [hz0, ByteArray.toList_eq]; rfl
  have c81 : Calls Tryz.prog 235 #[.string s, .int .i64 p, .slice none 0 0] W fun e w' => e = .returned (.string z) ∧ w' = W := by rw [hz0]; exact signed81 s p W
  clear hz0
  by_cases h34 : codeFrom s p = 34
  ·have hq34 : (codeFrom s p == 34) = true := by simp [h34]
   gi_wp2
   refine ⟨trivial, ?_⟩
   refine (callsIn_wide.2 c80).mono ?_
   rintro e w2 ⟨⟨k, er, rfl, hk⟩, hb2⟩
   have hK2 := hid (show w2.heap[D]? = some (.deferred (some [])) from (hb2.block D hDl).trans hK'.out)
   have hB2 := hid (hBB.out.trans (hb2.mono hW))
   clear hb2
   have hk' := hid hk
   clear hk
   gi_wp2
   refine ⟨by simp, .inl ⟨_, _, rfl, run_takeDeferred hK2.out, ?_⟩⟩
   exact ⟨.tuple #[.int .u8 3, .int .i64 k, .int .i64 er], by simp [results, Tryz.results204, go_sem], ⟨_, _, _, rfl, .other hst (by decide) hk'.out⟩, hB2.out.trans (belowK_b (w := W0) (by omega) _ D _ _ hD hK2.out rfl rfl)⟩
  have hq34 : (codeFrom s p == 34) = false := by simp [h34]
  by_cases h39 : codeFrom s p = 39
  ·have hq39 : (codeFrom s p == 39) = true := by simp [h39]
   gi_wp2
   refine ⟨trivial, ?_⟩
   refine (callsIn_wide.2 c80).mono ?_
   rintro e w2 ⟨⟨k, er, rfl, hk⟩, hb2⟩
   have hK2 := hid (show w2.heap[D]? = some (.deferred (some [])) from (hb2.block D hDl).trans hK'.out)
   have hB2 := hid (hBB.out.trans (hb2.mono hW))
   clear hb2
   have hk' := hid hk
   clear hk
   gi_wp2
   refine ⟨by simp, .inl ⟨_, _, rfl, run_takeDeferred hK2.out, ?_⟩⟩
   exact ⟨.tuple #[.int .u8 4, .int .i64 k, .int .i64 er], by simp [results, Tryz.results204, go_sem], ⟨_, _, _, rfl, .other hst (by decide) hk'.out⟩, hB2.out.trans (belowK_b (w := W0) (by omega) _ D _ _ hD hK2.out rfl rfl)⟩
  have hq39 : (codeFrom s p == 39) = false := by simp [h39]
  clear c80
  gi_wp2
  refine ⟨trivial, ?_⟩
  refine (callsIn_wide.2 c81).mono ?_
  rintro e w' ⟨rfl, hw⟩
  subst w'
  clear c81
  by_cases hneg : codeFrom s p < 0
  ·have hng : decide (codeFrom s p < 0) = true := by simp [hneg]
   gi_wp2
   refine ⟨by simp, .inl ⟨_, _, rfl, run_takeDeferred hK'.out, ?_⟩⟩
   exact ⟨.tuple #[.int .u8 0, .int .i64 p, .int .i64 13], by simp [results, Tryz.results204, go_sem], ⟨_, _, _, rfl, .other hst (by decide) (fun h => absurd h (by decide))⟩, hBB.out.trans (belowK_b (w := W0) (by omega) _ D _ _ hD hK'.out rfl rfl)⟩
  ·have hng : decide (codeFrom s p < 0) = false := by simp; omega
   gi_wp2
   refine ⟨by simp, .inl ⟨_, _, rfl, run_takeDeferred hK'.out, ?_⟩⟩
   exact ⟨.tuple #[.int .u8 0, .int .i64 p, .int .i64 10], by simp [results, Tryz.results204, go_sem], ⟨_, _, _, rfl, .other hst (by decide) (fun h => absurd h (by decide))⟩, hBB.out.trans (belowK_b (w := W0) (by omega) _ D _ _ hD hK'.out rfl rfl)⟩
end
section
open Go.Shelf
attribute [local go_sem] Oper.semAt_some
def oneWord (s : ByteArray) : Bool := decide (0 < s.size) && startB (codeFrom s 0) && (wordEnd s 0 == s.size)
theorem byte_code (s : ByteArray) (p : Nat) (hp : p < s.size) (h : (s[p]'hp).toNat < 128) : codeFrom s p = ((s[p]'hp).toNat : Int) := by
 have hsz : (s.extract p s.size).size = s.size - p := by simp
 have hg : (s.extract p s.size).get! 0 = s[p]'hp := by
  rw [get_at (s.extract p s.size) 0 (by omega)]
  have := ByteArray.getElem_extract (b := s) (start := p) (stop := s.size) (i := 0) (by omega : 0 < (s.extract p s.size).size)
  simpa using this
 have hd : Utf8.decode (s.extract p s.size) 0 = ((s[p]'hp).toNat, 1) := by
  have h8 : ((s.extract p s.size).get! 0).toNat < 128 := by rw [hg]; exact h
  rw [← hg]
  simp [Utf8.decode, h8]
 unfold codeFrom codeAt lostAt
 rw [hd]
 have : ((s[p]'hp).toNat == 65533) = false := by simp; omega
 simp only [this, Bool.false_and]
 rfl
theorem oneWord_not (s : ByteArray) (h0 : 0 < s.size) (h : (s[0]'h0).toNat = 9 ∨ (s[0]'h0).toNat = 13 ∨ (s[0]'h0).toNat = 32 ∨ (s[0]'h0).toNat = 35) : oneWord s = false := by
 have : startB (codeFrom s 0) = false := by
  rw [byte_code s 0 h0 (by omega)]
  rcases h with h | h | h | h <;> rw [h] <;> decide
 simp [oneWord, this]
structure Fine (s : ByteArray) (k n : Nat) (xs : List Value) : Prop where
 t : oneWord s = true → (k = 0 ∧ n = 0) ∨ (k = s.size ∧ n = 1 ∧ xs = [.int .u8 1, .int .i64 0, .string s])
 f : oneWord s = false → n = 1 → ∀ (kd at' : Int) (txt : ByteArray), xs = [.int .u8 kd, .int .i64 at', .string txt] → ¬ (kd = 1 ∧ txt = s)
 z : n = 0 → xs = []
 one : n = 1 → ∃ (kd at' : Int) (txt : ByteArray), xs = [.int .u8 kd, .int .i64 at', .string txt]
theorem Fine.start (s : ByteArray) : Fine s 0 0 [] := ⟨fun _ => .inl ⟨rfl, rfl⟩, (fun _ h => by cases h), fun _ => rfl, fun h => by cases h⟩
theorem Fine.on {s : ByteArray} {k n : Nat} {xs : List Value} (h : Fine s k n xs) (hk : k < s.size) (k' : Nat) (hb : ∀ h0 : 0 < s.size, k = 0 → (s[0]'h0).toNat = 9 ∨ (s[0]'h0).toNat = 13 ∨ (s[0]'h0).toNat = 32 ∨ (s[0]'h0).toNat = 35) : Fine s k' n xs where
 t := fun hq => by
  rcases h.t hq with ⟨h1, _⟩ | ⟨h1, _⟩
  ·rw [oneWord_not s (by omega) (hb (by omega) h1)] at hq; cases hq
  ·omega
 f := h.f
 z := h.z
 one := h.one
theorem Fine.add {s : ByteArray} {k n : Nat} {xs : List Value} (h : Fine s k n xs) (hk : k < s.size) {kd : Int} {en : Nat} (ht : Tk s k kd en 0) (h1 : k < en) (h2 : en ≤ s.size) : Fine s en (n + 1) (xs ++ [.int .u8 kd, .int .i64 k, .string (s.extract k en)]) where
 t := fun hq => by
  rcases h.t hq with ⟨rfl, rfl⟩ | ⟨h1, _⟩
  ·simp only [oneWord, Bool.and_eq_true, beq_iff_eq, decide_eq_true_eq] at hq
   obtain ⟨e1, _, e2⟩ := ht.2.1 hq.1.2
   have e3 : en = s.size := by omega
   subst e3
   refine .inr ⟨rfl, rfl, ?_⟩
   rw [h.z rfl, e1]
   simp
  ·omega
 f := fun hq hn kd' at' txt hx ⟨hk1, hk2⟩ => by
  have hn0 : n = 0 := by omega
  rw [h.z hn0] at hx
  simp at hx
  obtain ⟨hx1, hx2, hx3⟩ := hx
  have hs : (s.extract k en).size = s.size := by rw [hx3, hk2]
  simp at hs
  have hk0 : k = 0 := by omega
  subst hk0
  have hen : en = s.size := by omega
  cases hst : startB (codeFrom s 0)
  ·exact ht.2.2 hst (by omega)
  ·obtain ⟨_, _, e2⟩ := ht.2.1 hst
   have : oneWord s = true := by
    simp only [oneWord, hst, Bool.and_true, Bool.and_eq_true, beq_iff_eq, decide_eq_true_eq]
    omega
   rw [this] at hq
   cases hq
 z := fun h => by omega
 one := fun hn => by
  have hn0 : n = 0 := by omega
  rw [h.z hn0]
  exact ⟨_, _, _, rfl⟩
def ToksR (s : ByteArray) (w : World) (e : Ending) (w' : World) : Prop :=
 (∃ (v : Value) (en er : Int), e = .returned (.tuple #[v, .int .i64 en, .int .i64 er]) ∧ (er = 0 → ∃ (n : Nat) (xs : List Value), w'.ownsRow w.heap.size 222 3 v n xs ∧ Fine s s.size n xs) ∧ (er ≠ 0 → oneWord s = true → 32 < s.size)) ∧ Below w.heap.size w w'
theorem idx_pos (s : ByteArray) (k : Nat) (hlt : k < s.size) (h : (s[k]'hlt).toNat = 35) : Lib.indexByte (s.extract k s.size).data.toList (10 : Int).toNat.toUInt8 = -1 ∨ ∃ j : Nat, Lib.indexByte (s.extract k s.size).data.toList (10 : Int).toNat.toUInt8 = j ∧ 1 ≤ j ∧ k + j < s.size := by
 have hsz : (s.extract k s.size).size = s.size - k := by simp
 have hlen : (s.extract k s.size).data.toList.length = s.size - k := by rw [← hsz]; rfl
 have hb := ByteArray.getElem_extract (b := s) (start := k) (stop := s.size) (i := 0) (by omega : 0 < (s.extract k s.size).size)
 have h2 : (s.extract k s.size).data.toList[0]? = some (s[k]'hlt) := by
  rw [List.getElem?_eq_getElem (by omega)]
  exact congrArg some hb
 have hge := Lib.indexByte_ge (s.extract k s.size).data.toList (10 : Int).toNat.toUInt8
 have hne : (s.extract k s.size).data.toList ≠ [] := fun e => by rw [e] at hlen; simp at hlen; omega
 have hlt2 := indexByte_lt _ (10 : Int).toNat.toUInt8 hne
 rw [hlen] at hlt2
 generalize hx : Lib.indexByte (s.extract k s.size).data.toList (10 : Int).toNat.toUInt8 = x at *
 rcases Int.lt_or_le x 0 with hn | hn
 ·exact .inl (by omega)
 ·refine .inr ⟨x.toNat, by omega, ?_, by omega⟩
  rcases Int.lt_or_le 0 x with hp | hp
  ·omega
  ·exfalso
   obtain rfl : x = 0 := by omega
   revert hx h2
   cases (s.extract k s.size).data.toList with
   | nil => intro h2; simp at h2
   | cons b l =>
    intro h2 hx
    simp only [Lib.indexByte] at hx
    have : b = s[k]'hlt := by simpa using h2
    split at hx
    ·rename_i he
     have he : b = (10 : Int).toNat.toUInt8 := by simpa using he
     rw [← this, he] at h
     revert h
     decide
    ·have := Lib.indexByte_ge l (10 : Int).toNat.toUInt8
     split at hx
     ·cases hx
     ·rename_i hh
      have : Lib.indexByte l (10 : Int).toNat.toUInt8 ≠ -1 := by simpa using hh
      omega
theorem ownsRow_on {B : Nat} {t : TypeId} {m : Nat} {v : Value} {n : Nat} {xs : List Value} {w w' : World} (h : w.ownsRow B t m v n xs) (hb : Below w.heap.size w w') : w'.ownsRow B t m v n xs := by
 refine h.kept (grown_of_below hb) ?_
 cases h : v.ownBlock
 ·exact .inl rfl
 ·exact .inr (by simp)
theorem tokens42 (s : ByteArray) (w : World) (hs : s.size ≤ 1048576) : Calls Tryz.prog 165 #[.string s, .slice none 0 0] w (ToksR s w) := by
  have hfit := fit54 w
  go_enter Tryz.func165, Tryz.ntmps165
  go_wp2_with fail
  go_step3
  go_wp2_with fail
  refine hfit.mono ?_
  rintro e w2 ⟨rfl, hw⟩
  subst w2
  by_cases hbig : 524288 < s.size
  · go_wp2_with fail
    rw [Exit.noGoto_ret]
    go_ret3
    exact ⟨⟨_, _, _, rfl, (fun h => by cases h), fun _ _ => by omega⟩, Below.refl _ _⟩
  go_wp2_with fail
  go_step3
  go_wp2_with fail
  go_loopw [7, 8] (fun x y wr => ∃ (k n : Nat) (xs : List Value), y = .int .i64 k ∧ k ≤ s.size ∧ n ≤ k ∧ wr.ownsRow w.heap.size 222 3 x n xs ∧ Fine s k n xs ∧ Below w.heap.size w wr) (fun _ y _ => s.size - (intOf y).toNat)
  case atStart => exact ⟨0, 0, [], rfl, by omega, by omega, World.ownsRow_nil _ _ _ _, Fine.start s, Below.refl _ _⟩
  case round =>
    obtain ⟨k, n, xs, rfl, hk, hnk, hown, hF, hb⟩ := hrel
    have hO := hid hown
    have hF' := hid hF
    have hB := hid hb
    clear hown hF hb
    by_cases hlt : k < s.size
    rotate_left
    · obtain rfl : k = s.size := by omega
      go_wp2_with fail
      rw [Exit.noGoto_ret]
      go_ret3
      exact ⟨⟨_, _, _, rfl, fun _ => ⟨n, xs, hO.out, hF'.out⟩, fun h => absurd rfl h⟩, hB.out⟩
    by_cases hblank : (s[k]'hlt).toNat = 9 ∨ (s[k]'hlt).toNat = 13 ∨ (s[k]'hlt).toNat = 32
    · have hF2 := hid (hF'.out.on hlt (k + 1) (fun h0 e => by subst e; omega))
      rcases hblank with h | h | h
      all_goals
        have hbv : ((s[k]'hlt).toNat : Int) = _ := congrArg (Nat.cast (R := Int)) h
        go_wp2_with fail
        all_goals first
          | (go_roundw
             case rel => exact ⟨k + 1, n, xs, by go_num, by omega, by omega, hO.out, hF2.out, hB.out⟩
             case measure => simp [intOf]; omega)
          | (exfalso; simp_all; done)
    have hnb : (s[k]'hlt).toNat ≠ 9 ∧ (s[k]'hlt).toNat ≠ 13 ∧ (s[k]'hlt).toNat ≠ 32 := by omega
    have hq1 : (((s[k]'hlt).toNat : Int) == 9) = false := by simp; omega
    have hq2 : (((s[k]'hlt).toNat : Int) == 13) = false := by simp; omega
    have hq3 : (((s[k]'hlt).toNat : Int) == 32) = false := by simp; omega
    by_cases h35 : (s[k]'hlt).toNat = 35
    · have hq4 : (((s[k]'hlt).toNat : Int) == 35) = true := by simp [h35]
      have c55 := index55 (s.extract k s.size) 10 wr
      rcases idx_pos s k hlt h35 with hx | ⟨j, hx, hj1, hj2⟩
      · rw [hx] at c55
        go_wp2_with (go_at_call 203; refine c55.mono ?_; rintro e w' ⟨rfl, hw⟩; subst w')
        rw [Exit.noGoto_ret]
        go_ret3
        refine ⟨⟨_, _, _, rfl, (fun _ => ⟨n, xs, hO.out, hF'.out.on hlt _ (fun h0 e => by subst e; omega)⟩), fun h => absurd rfl h⟩, hB.out⟩
      · rw [hx] at c55
        go_wp2_with (go_at_call 203; refine c55.mono ?_; rintro e w' ⟨rfl, hw⟩; subst w')
        go_roundw
        case rel => exact ⟨k + j, n, xs, by go_num, by omega, by omega, hO.out, hF'.out.on hlt _ (fun h0 e => by subst e; omega), hB.out⟩
        case measure => simp [intOf]; omega
    have hq4 : (((s[k]'hlt).toNat : Int) == 35) = false := by simp; omega
    have c56 := token56 s k wr hs hlt
    go_wp2_with fail
    refine c56.mono ?_
    rintro e w2 ⟨⟨kd, en, er, rfl, ht⟩, hb2⟩
    have hO2 := hid (ownsRow_on hO.out hb2)
    have hB2 := hid (hB.out.trans (hb2.mono hB.out.size))
    have ht' := hid ht
    clear hb2 ht
    by_cases her : er = 0
    rotate_left
    · have hq5 : (er != 0) = true := by simpa using her
      go_wp2_with fail
      rw [Exit.noGoto_ret]
      go_ret3
      refine ⟨⟨_, _, _, rfl, (fun h => absurd h her), fun _ hq => ?_⟩, hB2.out⟩
      exfalso
      rcases hF'.out.t hq with ⟨rfl, _⟩ | ⟨h1, _⟩
      · simp only [oneWord, Bool.and_eq_true] at hq
        exact her (ht'.out.2.1 hq.1.2).2.1
      · omega
    subst her
    obtain ⟨m, hm, h1, h2⟩ := ht'.out.1 rfl
    subst hm
    have hF2 := hid (hF'.out.add hlt ht'.out h1 h2)
    have hsz2 : w.heap.size ≤ w2.heap.size := hB2.out.size
    go_wp2_with (at_builtin; refine wpList_append_str rfl _ _ 217 rfl w.heap.size 222 222 (.agg #[.int .u8 0, .int .i64 0, .string ⟨#[]⟩]) 3 32 1 Tryz.underlying217 (by kernel_rfl) rfl (by decide) _ n _ [_, _, _] (0, 0) hO2.out rfl (by simp [Value.oneCell']) (by unfold maxLen; omega) (by omega) hsz2 rfl rfl ?_; intro v' w3 hA; have hOw := hid hA.own; have hGr := hid hA.grown; clear hA)
    go_roundw
    case rel => exact ⟨m, n + 1, _, rfl, h2, by omega, hOw.out, hF2.out, hB2.out.grown hGr.out hsz2 (fun k hk => (hO2.out.lt k hk).1)⟩
    case measure => simp [intOf]; omega
end
section
open Go.Shelf
attribute [local go_sem] Oper.semAt_some
def nameOk (s : ByteArray) : Bool := oneWord s && !inList resL s && decide (s.size ≤ 32)
theorem row_forms {w : World} {base size n : Nat} {e : TypeId} {v : Value} {xs : List Value} (h : w.ownsRow base e size v n xs) : (v = .slice none 0 0 ∧ n = 0) ∨ ∃ g cap, v = .slice (some ⟨g, 0, none⟩) n cap := by
 rcases h.2 with ⟨h1, h2⟩ | ⟨g, cap, _, h1, _⟩
 ·exact .inl ⟨h1, by first | exact h2 | omega⟩
 ·exact .inr ⟨g, cap, h1⟩
theorem named43 (kd at' : Int) (txt : ByteArray) (w : World) (hs : txt.size ≤ 1048576) : Calls Tryz.prog 166 #[.agg #[.int .u8 kd, .int .i64 at', .string txt]] w fun e w' => e = .returned (.bool (kd == 1 && !inList resL txt && decide (txt.size ≤ 32))) ∧ Below w.heap.size w w' := by
 have hcall := hid (reserved57 txt (w.alloc (.cells #[.int .u8 kd, .int .i64 at', .string txt] 222)))
 have hX := hid (Bx.new w #[.int .u8 kd, .int .i64 at', .string txt] 222)
 go_enter Tryz.func166, Tryz.ntmps166
 cases hk : kd == 1
 ·go_wp2_with fail
  go_ret
  exact ⟨ret_bool (by simp), (Below.refl _ _).alloc (Nat.le_refl _) _⟩
 ·go_wp2_with fail
  refine hcall.out.mono ?_
  rintro e w2 ⟨rfl, hb⟩
  have hX2 := hX.out.on (grown_of_below hb) (by simp)
  have p2 := hX2.cell 2
  have hB := hid (((Below.refl w.heap.size w).alloc (Nat.le_refl _) (.cells #[.int .u8 kd, .int .i64 at', .string txt] 222)).trans (hb.mono (by simp)))
  clear hb hX2
  cases hr : inList resL txt
  ·go_wp2_with fail
   go_ret
   refine ⟨ret_bool ?_, hB.out⟩
   by_cases h32 : txt.size ≤ 32
   ·simp [h32, hr]
    try omega
   ·simp [h32, hr]
    try omega
  ·go_wp2_with fail
   go_ret
   exact ⟨ret_bool (by simp [hr]), hB.out⟩
theorem toList_refl (s : ByteArray) : (s.toList == s.toList) = true := by simp
theorem toList_ne {a b : ByteArray} (h : a ≠ b) : (a.toList == b.toList) = false := by
 simp only [beq_eq_false_iff_ne, ne_eq, ByteArray.toList_eq]
 intro e
 exact h (ByteArray.ext (by rw [← Array.toList_inj]; exact e))
theorem isName29 (s : ByteArray) (w : World) (hs : s.size ≤ 1048576) : Calls Tryz.prog 134 #[.string s] w fun e w' => e = .returned (.bool (nameOk s)) ∧ Below w.heap.size w w' := by
 have hcall := hid (tokens42 s w hs)
 go_enter Tryz.func134, Tryz.ntmps134
 go_wp2_with fail
 refine hcall.out.mono ?_
 rintro e w2 ⟨⟨v, en, er, rfl, h0, h1⟩, hb⟩
 have hB := hid hb
 clear hb hcall
 by_cases her : er = 0
 rotate_left
 ·have hq : (er == 0) = false := by simpa using her
  have h1' := hid (h1 her)
  clear h0 h1
  go_wp2_with fail
  go_ret
  refine ⟨ret_bool ?_, hB.out⟩
  unfold nameOk
  cases ho : oneWord s
  ·rfl
  ·have := h1'.out ho
   have h2 : decide (s.size ≤ 32) = false := by simp; omega
   simp [h2]
 obtain ⟨n, xs, hO, hF⟩ := h0 her
 subst her
 clear h1 h0
 have hF' := hid hF
 clear hF
 have hname : Hid (n ≠ 1 → oneWord s = false) := hid (fun hn => by
  cases ho : oneWord s
  ·rfl
  ·rcases hF'.out.t ho with ⟨h1, _⟩ | ⟨_, h2, _⟩
   ·simp only [oneWord, Bool.and_eq_true, decide_eq_true_eq] at ho; omega
   ·exact absurd h2 hn)
 rcases row_forms hO with ⟨rfl, rfl⟩ | ⟨g, cap, rfl⟩
 ·clear hO
  go_wp2_with fail
  go_ret
  exact ⟨ret_bool (by simp [nameOk, hname.out (by decide)]), hB.out⟩
 have hcap := hO.1
 by_cases hn : n = 1
 rotate_left
 ·have hq : ((n : Int) == 1) = false := by simp; omega
  have hO' := hid hO
  clear hO hcap
  go_wp2_with fail
  go_ret
  exact ⟨ret_bool (by simp [nameOk, hname.out hn]), hB.out⟩
 subst hn
 obtain ⟨kd, at', txt, rfl⟩ := hF'.out.one rfl
 have p0 : w2.cell? ⟨g, 0, none⟩ = some (.int .u8 kd) := (hO.cellAt 0 (by decide)).trans rfl
 have p1 : w2.cell? ⟨g, 1, none⟩ = some (.int .i64 at') := (hO.cellAt 1 (by decide)).trans rfl
 have p2 : w2.cell? ⟨g, 2, none⟩ = some (.string txt) := (hO.cellAt 2 (by decide)).trans rfl
 clear hO hcap
 by_cases ht : txt = s
 rotate_left
 ·have hq := toList_ne ht
  go_wp2_with fail
  go_ret
  refine ⟨ret_bool ?_, hB.out⟩
  cases ho : oneWord s
  ·simp [nameOk, ho]
  ·rcases hF'.out.t ho with ⟨_, h2⟩ | ⟨_, _, h3⟩
   ·cases h2
   ·simp at h3
    exact absurd h3.2.2 ht
 subst ht
 have hq := toList_refl txt
 have hcall2 := hid (named43 kd at' txt w2 hs)
 go_wp2_with fail
 refine hcall2.out.mono ?_
 rintro e w3 ⟨rfl, hb3⟩
 have hB3 := hid (hB.out.trans (hb3.mono hB.out.size))
 clear hb3
 go_wp2_with fail
 go_ret
 refine ⟨ret_bool ?_, hB3.out⟩
 have hk : (kd == 1) = oneWord txt := by
  cases ho : oneWord txt
  ·have := hF'.out.f ho rfl kd at' txt rfl
   simp at this
   simpa using this
  ·rcases hF'.out.t ho with ⟨_, h2⟩ | ⟨_, _, h3⟩
   ·cases h2
   ·simp at h3
    simp [h3.1]
 unfold nameOk
 rw [hk]
 try simp
end
section
open Go.Shelf
attribute [local go_sem] Oper.semAt_some
def stopFrom (s : ByteArray) (p : Nat) : Nat := match (cutsN s (s.size - p) p).find? (fun x => !nameB x.2) with
 | some x => x.1
 | none => s.size
theorem stopFrom_le (s : ByteArray) (p : Nat) (hp : p ≤ s.size) : p ≤ stopFrom s p ∧ stopFrom s p ≤ s.size := by
 unfold stopFrom
 split
 ·rename_i x hx
  have h2 := List.mem_of_find?_eq_some hx
  exact ⟨cutsN_ge s _ _ x h2, Nat.le_of_lt (cutsN_lt s _ _ x h2)⟩
 ·exact ⟨hp, Nat.le_refl _⟩
end
section
open Go.Shelf
attribute [local go_sem] Oper.semAt_some
open Go.Shelf
attribute [local go_sem] Oper.semAt_some
open Go.Shelf
attribute [local go_sem] Oper.semAt_some
end
section
open Go.Shelf
attribute [local go_sem] Oper.semAt_some
open Go.Shelf
attribute [local go_sem] Oper.semAt_some
def PassR (s : ByteArray) (p k : Nat) : Prop := p ≤ k ∧ k ≤ s.size ∧ (k = p ∨ ∀ h0 : 0 < s.size, p = 0 → (s[0]'h0).toNat = 9 ∨ (s[0]'h0).toNat = 13 ∨ (s[0]'h0).toNat = 32 ∨ (s[0]'h0).toNat = 35)
theorem PassR.step {s : ByteArray} {p k j : Nat} (h : PassR s p k) (hk : k < s.size) (hj : k < j) (hj2 : j ≤ s.size) (hb : (s[k]'hk).toNat = 9 ∨ (s[k]'hk).toNat = 13 ∨ (s[k]'hk).toNat = 32 ∨ (s[k]'hk).toNat = 35) : PassR s p j := by
 obtain ⟨h1, h2, h3⟩ := h
 refine ⟨by omega, hj2, .inr fun h0 hp => ?_⟩
 rcases h3 with rfl | h3
 ·subst hp; exact hb
 ·exact h3 h0 hp
open Go.Shelf
attribute [local go_sem] Oper.semAt_some
end
section
open Go.Shelf
attribute [local go_sem] Oper.semAt_some
def TkQ (s : ByteArray) (p : Nat) (kd at' : Int) (txt : ByteArray) (er : Int) : Prop :=
 (er = 0 → at' = p ∧ ∃ n : Nat, txt = s.extract p n ∧ p < n ∧ n ≤ s.size) ∧ (p = 0 → startB (codeAt s 0) = true → kd = 1 ∧ er = 0 ∧ txt = s.extract 0 (stopFrom s 0)) ∧ (p = 0 → startB (codeAt s 0) = false → kd ≠ 1)
theorem TkQ.plain {s : ByteArray} {p : Nat} {kd at' : Int} {txt : ByteArray} {er : Int} (hp : p < s.size) (h1 : er = 0 → at' = p ∧ ∃ n : Nat, txt = s.extract p n ∧ p < n ∧ n ≤ s.size) (hk : kd ≠ 1) (hn : startB (codeAt s p) = false) : TkQ s p kd at' txt er :=
 ⟨h1, (fun h hs => by subst h; rw [hn] at hs; cases hs), fun _ _ => hk⟩
theorem TkQ.word {s : ByteArray} {p : Nat} (hp : p < s.size) (hn : startB (codeAt s p) = true) (hw : p < stopFrom s p) : TkQ s p 1 p (s.extract p (stopFrom s p)) 0 :=
 ⟨fun _ => ⟨rfl, _, rfl, hw, (stopFrom_le s p (Nat.le_of_lt hp)).2⟩, (fun h _ => by subst h; exact ⟨rfl, rfl, rfl⟩), fun h hs => by subst h; rw [hn] at hs; cases hs⟩
open Go.Shelf
attribute [local go_sem] Oper.semAt_some
theorem lit_toList (l : List UInt8) : (⟨l.toArray⟩ : ByteArray).toList = l := by rw [ByteArray.toList_eq]
open Go.Shelf
attribute [local go_sem] Oper.semAt_some
end
section
def ParC (a : PW) (c : List Value) : Prop := c = [.string a.1, .int .u8 a.2]
theorem SlR.cells {α : Type} {w : World} {o : Option (Nat → Prop)} {t : TypeId} {n : Nat} {R : α → Nat → Nat → Prop} {l : List α} {ka : Option Addr} {m cap : Nat} (hn : 0 < n) (h : SlR w o t n R l (.slice ka m cap)) (Rc : α → List Value → Prop)
  (hR : ∀ a b q, R a b q → ∃ c : List Value, c.length = n ∧ Rc a c ∧ (∀ u ∈ c, u.oneCell' = true) ∧ ∀ j u, c[j]? = some u → w.cell? ⟨b, q + j, none⟩ = some u) :
  ∃ cs : List (List Value), cs.length = l.length ∧ (∀ i (h : i < l.length) (h' : i < cs.length), cs[i].length = n ∧ Rc l[i] cs[i]) ∧ (∀ u ∈ cs.flatten, u.oneCell' = true) ∧ m = l.length ∧ cs.flatten.length = m * n ∧
   (m = 0 ∨ ∃ a, ka = some a ∧ ∀ j u, cs.flatten[j]? = some u → w.cell? (a.add j) = some u) := by
 obtain ⟨ka', kb, koff, kcap, hv, y2, y3⟩ := h
 cases hv
 have ch : ∀ i : Fin l.length, ∃ c : List Value, c.length = n ∧ Rc l[i] c ∧ (∀ u ∈ c, u.oneCell' = true) ∧ ∀ j u, c[j]? = some u → w.cell? ⟨kb, koff + i * n + j, none⟩ = some u := fun i => hR _ _ _ (y3 i i.2)
 have hcs : (List.ofFn fun i => (ch i).choose).length = l.length := by simp
 have hat : ∀ i (h : i < l.length) (h' : i < (List.ofFn fun i => (ch i).choose).length), (List.ofFn fun i => (ch i).choose)[i] = (ch ⟨i, h⟩).choose := fun i h h' => by simp
 have hlen : ∀ i (h' : i < (List.ofFn fun i => (ch i).choose).length), (List.ofFn fun i => (ch i).choose)[i].length = n := fun i h' => by
  rw [hat i (by omega) h']
  exact (ch ⟨i, by omega⟩).choose_spec.1
 have hfl := flatten_len hlen
 refine ⟨List.ofFn fun i => (ch i).choose, hcs, fun i h h' => ⟨hlen i h', ?_⟩, ?_, rfl, by rw [hfl, hcs], ?_⟩
 ·rw [hat i h h']
  exact (ch ⟨i, h⟩).choose_spec.2.1
 ·intro u hu
  obtain ⟨c, hc, hu⟩ := List.mem_flatten.1 hu
  obtain ⟨i, hi, rfl⟩ := List.getElem_of_mem hc
  rw [hat i (by omega) hi] at hu
  exact (ch ⟨i, by omega⟩).choose_spec.2.2.1 u hu
 ·rcases y2 with h0 | ⟨rfl, -⟩
  ·exact .inl h0.1
  ·refine .inr ⟨_, rfl, fun j u hj => ?_⟩
   have hjl : j < (List.ofFn fun i => (ch i).choose).flatten.length := by
    rcases Nat.lt_or_ge j (List.ofFn fun i => (ch i).choose).flatten.length with h | h
    ·exact h
    ·rw [List.getElem?_eq_none h] at hj; cases hj
   rw [hfl, hcs] at hjl
   have hi : j / n < l.length := Nat.div_lt_of_lt_mul (by rw [Nat.mul_comm]; exact hjl)
   have hr : j % n < n := Nat.mod_lt _ hn
   have he : j / n * n + j % n = j := by rw [Nat.mul_comm]; exact Nat.div_add_mod j n
   have hf := flatten_at hlen (j / n) (by omega) (j % n) hr
   rw [he, hj, hat _ hi] at hf
   have := (ch ⟨j / n, hi⟩).choose_spec.2.2.2 (j % n) u hf.symm
   rw [Nat.add_assoc, he] at this
   rw [show (⟨kb, koff, none⟩ : Addr).add j = ⟨kb, koff + j, none⟩ by unfold Addr.add; split <;> simp_all]
   exact this
theorem ParR.of {w : World} {a : PW} {c : List Value} {g q : Nat} (h : ParC a c) (hc : ∀ j, j < 2 → w.cell? ⟨g, q + j, none⟩ = c[j]?) : ParR w a g q := by
 obtain rfl := h
 exact ⟨hc 0 (by omega), hc 1 (by omega)⟩
theorem ParR.cells {w : World} {a : PW} {b q : Nat} (h : ParR w a b q) : ∃ c : List Value, c.length = 2 ∧ ParC a c ∧ (∀ u ∈ c, u.oneCell' = true) ∧ ∀ j u, c[j]? = some u → w.cell? ⟨b, q + j, none⟩ = some u := by
 refine ⟨_, rfl, rfl, by simp [Value.oneCell'], fun j u hj => ?_⟩
 match j, hj with
 | 0, hj => simp at hj; subst hj; exact h.c0
 | 1, hj => simp at hj; subst hj; exact h.c1
 | j + 2, hj => simp at hj
theorem below_of_own {w w2 w3 : World} {e : TypeId} {n k m : Nat} {v v' : Value} {xs news : List Value} (hA : Appended w2 w3 w.heap.size e n v v' k m xs news) (h : w2.ownsRow w.heap.size e n v k xs) (hs : w.heap.size ≤ w2.heap.size) : Below w.heap.size w2 w3 :=
 (Below.refl w.heap.size w2).grown hA.grown hs (fun q hq => (h.lt q hq).1)
end
section
/-! ### a list of records, each with its own relation -/
def BldI {α : Type} (w : World) (B : Nat) (e : TypeId) (n : Nat) (R : Nat → α → List Value → Prop) (l : List α) (v : Value) : Prop :=
 ∃ cs : List (List Value), cs.length = l.length ∧ (∀ i (h : i < l.length) (h' : i < cs.length), cs[i].length = n ∧ R i l[i] cs[i]) ∧ w.ownsRow B e n v l.length cs.flatten
theorem BldI.on {α : Type} {w w' : World} {B : Nat} {e : TypeId} {n : Nat} {R R' : Nat → α → List Value → Prop} {l : List α} {v : Value} (h : BldI w B e n R l v) {row : Option Nat} (hg : w.grownBy w' row) (hne : v.ownBlock = none ∨ v.ownBlock ≠ row) (hR : ∀ i a c, R i a c → R' i a c) : BldI w' B e n R' l v := by
 obtain ⟨cs, h1, h2, h3⟩ := h
 exact ⟨cs, h1, fun i h h' => ⟨(h2 i h h').1, hR _ _ _ (h2 i h h').2⟩, h3.kept hg hne⟩
theorem BldI.lt {α : Type} {w : World} {B : Nat} {e : TypeId} {n : Nat} {R : Nat → α → List Value → Prop} {l : List α} {v : Value} (h : BldI w B e n R l v) : ∀ k, v.ownBlock = some k → B ≤ k ∧ k < w.heap.size := by
 obtain ⟨cs, h1, h2, h3⟩ := h
 exact h3.lt
theorem flatten_set {n : Nat} (u : Value) : ∀ {cs : List (List Value)}, (∀ i (h : i < cs.length), cs[i].length = n) → ∀ i (h : i < cs.length) j, j < n → (cs.set i (cs[i].set j u)).flatten = cs.flatten.set (i * n + j) u
 | [], _, i, h, _, _ => by simp at h
 | c :: cs, h, i, hi, j, hj => by
  have h0 := h 0 (by simp)
  simp only [List.getElem_cons_zero] at h0
  cases i with
  | zero =>
   simp only [List.set_cons_zero, List.getElem_cons_zero, List.flatten_cons, Nat.zero_mul, Nat.zero_add]
   rw [List.set_append_left _ _ (by omega)]
  | succ i =>
   have := flatten_set u (cs := cs) (fun i hi => h (i + 1) (by simpa using hi)) i (by simpa using hi) j hj
   simp only [List.set_cons_succ, List.getElem_cons_succ, List.flatten_cons]
   rw [this, List.set_append_right _ _ (by rw [h0, Nat.add_mul]; omega), h0, show (i + 1) * n + j - n = i * n + j by rw [Nat.add_mul]; omega]
theorem BldI.store {α : Type} {w : World} {B : Nat} {e : TypeId} {n : Nat} {R R' : Nat → α → List Value → Prop} {l : List α} {g cap m : Nat} (h : BldI w B e n R l (.slice (some ⟨g, 0, none⟩) m cap)) (hm : m = l.length) (k : Nat) (hk : k < l.length) (j : Nat) (hj : j < n) (u : Value)
  (hR : ∀ i a c, i ≠ k → R i a c → R' i a c) (hk' : ∀ c, R k l[k] c → R' k l[k] (c.set j u)) : BldI (w.setCell ⟨g, k * n + j, none⟩ u) B e n R' l (.slice (some ⟨g, 0, none⟩) m cap) := by
 subst hm
 obtain ⟨cs, h1, h2, h3⟩ := h
 have hkc : k < cs.length := by omega
 refine ⟨cs.set k (cs[k].set j u), by simp [h1], fun i hi hi' => ?_, ?_⟩
 ·by_cases e : i = k
  ·subst e
   rw [List.getElem_set_self]
   exact ⟨by simp [(h2 i hi hkc).1], hk' _ (h2 i hi hkc).2⟩
  ·rw [List.getElem_set_ne (fun q => e q.symm)]
   exact ⟨(h2 i hi (by omega)).1, hR _ _ _ e (h2 i hi (by omega)).2⟩
 ·rw [flatten_set u (fun i hi => (h2 i (by omega) hi).1) k hkc j hj]
  exact (h3.stored (k * n + j) u).1
theorem BldI.free {α : Type} {w : World} {B : Nat} {e : TypeId} {n : Nat} {R : Nat → α → List Value → Prop} {l : List α} {g cap m : Nat} (h : BldI w B e n R l (.slice (some ⟨g, 0, none⟩) m cap)) (hm : m = l.length) (j : Nat) : w.frozen? ⟨g, j, none⟩ = false := by
 subst hm
 obtain ⟨cs, h1, h2, h3⟩ := h
 exact h3.frozenAt j
theorem BldI.cell {α : Type} {w : World} {B : Nat} {e : TypeId} {n : Nat} {R : Nat → α → List Value → Prop} {l : List α} {g cap m : Nat} (h : BldI w B e n R l (.slice (some ⟨g, 0, none⟩) m cap)) (hm : m = l.length) (k : Nat) (hk : k < l.length) (j : Nat) (hj : j < n) : ∃ v, w.cell? ⟨g, k * n + j, none⟩ = some v := by
 subst hm
 obtain ⟨cs, h1, h2, h3⟩ := h
 have hl : ∀ i (h : i < cs.length), cs[i].length = n := fun i h => (h2 i (by omega) h).1
 have hlt : k * n + j < l.length * n := by
  calc k * n + j < k * n + n := by omega
   _ = (k + 1) * n := by rw [Nat.add_mul]; omega
   _ ≤ l.length * n := Nat.mul_le_mul_right _ (by omega)
 rw [h3.cellAt _ hlt, flatten_at hl k (by omega) j hj]
 exact ⟨_, List.getElem?_eq_getElem (by rw [hl]; exact hj)⟩
theorem BldI.whole {α : Type} {w w' : World} {B : Nat} {e : TypeId} {n : Nat} {R : Nat → α → List Value → Prop} {l : List α} {v' : Value} {m : Nat} {cs : List (List Value)} (hA : Appended w w' B e n (.slice none 0 0) v' 0 m [] cs.flatten) (h1 : cs.length = l.length) (h2 : ∀ i (h : i < l.length) (h' : i < cs.length), cs[i].length = n ∧ R i l[i] cs[i]) (hm : m = l.length) : BldI w' B e n R l v' :=
 ⟨cs, h1, h2, by have := hA.own; rw [Nat.zero_add, List.nil_append, hm] at this; exact this⟩
theorem BldI.own {α : Type} {w : World} {B : Nat} {e : TypeId} {n : Nat} {R : Nat → α → List Value → Prop} {l : List α} {v : Value} (h : BldI w B e n R l v) : ∃ cs : List (List Value), cs.length = l.length ∧ (∀ i (h : i < l.length) (h' : i < cs.length), cs[i].length = n ∧ R i l[i] cs[i]) ∧ w.ownsRow B e n v l.length cs.flatten := h
/-! ### the cells of a unit's records -/
def GloC (a : GH) (c : List Value) : Prop := c = [.int .i64 a.at_, .string a.name, .int .u8 a.type, .int .u32 a.len, .int .u32 a.word]
def HosC (w : World) (Z : Nat → Prop) (d : Bool) (a : HH) (c : List Value) : Prop :=
 ∃ v, c = [.int .i64 a.at_, .string a.name, v, .int .u8 a.type, .int .u32 a.number] ∧ (d = true → SlPz w (some Z) a.params v)
def FunC (w : World) (Z : Nat → Prop) (d d' : Bool) (a : FH) (c : List Value) : Prop :=
 ∃ v v', c = [.int .i64 a.at_, .string a.name, v, .int .u8 a.type, .bool a.opn, v'] ∧ (d = true → SlPz w (some Z) a.params v) ∧ (d' = true → SlS w true (some Z) a.body v')
theorem GloR.of {w : World} {a : GH} {c : List Value} {g q : Nat} (h : GloC a c) (hc : ∀ j, j < 5 → w.cell? ⟨g, q + j, none⟩ = c[j]?) : GloR w true a g q := by
 obtain rfl := h
 exact ⟨⟨_, hc 0 (by omega), fun _ => rfl⟩, hc 1 (by omega), hc 2 (by omega), hc 3 (by omega), hc 4 (by omega)⟩
theorem HosR.of {w : World} {Z : Nat → Prop} {a : HH} {c : List Value} {g q : Nat} (h : HosC w Z true a c) (hc : ∀ j, j < 5 → w.cell? ⟨g, q + j, none⟩ = c[j]?) : HosR w true (some Z) a g q := by
 obtain ⟨v, rfl, hv⟩ := h
 exact ⟨⟨_, hc 0 (by omega), fun _ => rfl⟩, hc 1 (by omega), ⟨v, hc 2 (by omega), hv rfl⟩, hc 3 (by omega), hc 4 (by omega)⟩
theorem FunR.of {w : World} {Z : Nat → Prop} {a : FH} {c : List Value} {g q : Nat} (h : FunC w Z true true a c) (hc : ∀ j, j < 6 → w.cell? ⟨g, q + j, none⟩ = c[j]?) : FunR w true (some Z) a g q := by
 obtain ⟨v, v', rfl, hv, hv'⟩ := h
 exact ⟨⟨_, hc 0 (by omega), fun _ => rfl⟩, hc 1 (by omega), ⟨v, hc 2 (by omega), hv rfl⟩, hc 3 (by omega), hc 4 (by omega), ⟨v', hc 5 (by omega), hv' rfl⟩⟩
theorem GloR.cells {w : World} {a : GH} {b q : Nat} (h : GloR w true a b q) : ∃ c : List Value, c.length = 5 ∧ GloC a c ∧ (∀ u ∈ c, u.oneCell' = true) ∧ ∀ j u, c[j]? = some u → w.cell? ⟨b, q + j, none⟩ = some u := by
 obtain ⟨⟨t, y0, y0'⟩, y1, y2, y3, y4⟩ := h
 obtain rfl := y0' rfl
 refine ⟨_, rfl, rfl, by simp [Value.oneCell'], fun j u hj => ?_⟩
 match j, hj with
 | 0, hj => simp at hj; subst hj; exact y0
 | 1, hj => simp at hj; subst hj; exact y1
 | 2, hj => simp at hj; subst hj; exact y2
 | 3, hj => simp at hj; subst hj; exact y3
 | 4, hj => simp at hj; subst hj; exact y4
 | j + 5, hj => simp at hj
theorem HosR.cells {w : World} {a : HH} {b q : Nat} (h : HosR w true none a b q) (Z : Nat → Prop) (w' : World) : ∃ c : List Value, c.length = 5 ∧ HosC w' Z false a c ∧ (∀ u ∈ c, u.oneCell' = true) ∧ ∀ j u, c[j]? = some u → w.cell? ⟨b, q + j, none⟩ = some u := by
 obtain ⟨⟨t, y0, y0'⟩, y1, ⟨v, y2, hv⟩, y3, y4⟩ := h
 obtain rfl := y0' rfl
 obtain ⟨pa, pc, rfl⟩ := hv.shape
 refine ⟨[.int .i64 a.at_, .string a.name, .slice pa a.params.length pc, .int .u8 a.type, .int .u32 a.number], rfl, ⟨_, rfl, (fun e => nomatch e)⟩, by simp [Value.oneCell'], fun j u hj => ?_⟩
 match j, hj with
 | 0, hj => simp at hj; subst hj; exact y0
 | 1, hj => simp at hj; subst hj; exact y1
 | 2, hj => simp at hj; subst hj; exact y2
 | 3, hj => simp at hj; subst hj; exact y3
 | 4, hj => simp at hj; subst hj; exact y4
 | j + 5, hj => simp at hj
theorem FunR.cells {w : World} {a : FH} {b q : Nat} (h : FunR w true none a b q) (Z : Nat → Prop) (w' : World) : ∃ c : List Value, c.length = 6 ∧ FunC w' Z false false a c ∧ (∀ u ∈ c, u.oneCell' = true) ∧ ∀ j u, c[j]? = some u → w.cell? ⟨b, q + j, none⟩ = some u := by
 obtain ⟨⟨t, y0, y0'⟩, y1, ⟨v, y2, hv⟩, y3, y4, ⟨x, y5, hx⟩⟩ := h
 obtain rfl := y0' rfl
 obtain ⟨pa, pc, rfl⟩ := hv.shape
 obtain ⟨xa, xn, xc, rfl⟩ := hx.shape
 refine ⟨[.int .i64 a.at_, .string a.name, .slice pa a.params.length pc, .int .u8 a.type, .bool a.opn, .slice xa xn xc], rfl, ⟨_, _, rfl, (fun e => nomatch e), (fun e => nomatch e)⟩, by simp [Value.oneCell'], fun j u hj => ?_⟩
 match j, hj with
 | 0, hj => simp at hj; subst hj; exact y0
 | 1, hj => simp at hj; subst hj; exact y1
 | 2, hj => simp at hj; subst hj; exact y2
 | 3, hj => simp at hj; subst hj; exact y3
 | 4, hj => simp at hj; subst hj; exact y4
 | 5, hj => simp at hj; subst hj; exact y5
 | j + 6, hj => simp at hj
/-! ### three boxes: the argument, the answer, the unit that is built -/
structure CU (w wr : World) (arg : Array Value) (x0 x1 x2 : Value) : Prop where
 below : Below w.heap.size w wr
 a : Bx wr w.heap.size arg 26
 r : Bx wr (w.heap.size + 1) #[.slice none 0 0, .slice none 0 0, .slice none 0 0] 26
 x : Bx wr (w.heap.size + 1 + 1) #[x0, x1, x2] 26
theorem CU.size {w wr : World} {arg : Array Value} {x0 x1 x2 : Value} (h : CU w wr arg x0 x1 x2) : w.heap.size + 3 ≤ wr.heap.size := by have := h.x.lt; omega
theorem CU.start (w : World) (arg : Array Value) : CU w (((w.alloc (.cells arg 26)).alloc (.cells #[.slice none 0 0, .slice none 0 0, .slice none 0 0] 26)).alloc (.cells #[.slice none 0 0, .slice none 0 0, .slice none 0 0] 26)) arg (.slice none 0 0) (.slice none 0 0) (.slice none 0 0) where
 below := (((Below.refl _ _).alloc (Nat.le_refl _) _).alloc (by simp) _).alloc (by simp; omega) _
 a := ((Bx.new w _ _).on (World.grownBy_alloc _ _ none) (by simp)).on (World.grownBy_alloc _ _ none) (by simp)
 r := by have := (Bx.new (w.alloc (.cells arg 26)) #[.slice none 0 0, .slice none 0 0, .slice none 0 0] 26).on (World.grownBy_alloc _ (.cells #[.slice none 0 0, .slice none 0 0, .slice none 0 0] 26) none) (by simp); simpa using this
 x := by have := Bx.new ((w.alloc (.cells arg 26)).alloc (.cells #[.slice none 0 0, .slice none 0 0, .slice none 0 0] 26)) #[.slice none 0 0, .slice none 0 0, .slice none 0 0] 26; simpa using this
theorem CU.step {w wr w' : World} {arg : Array Value} {x0 x1 x2 : Value} (h : CU w wr arg x0 x1 x2) {row : Option Nat} (hg : wr.grownBy w' row) (hr : ∀ k, row = some k → w.heap.size + 3 ≤ k) : CU w w' arg x0 x1 x2 where
 below := h.below.grown hg (by have := h.below.size; omega) (fun k hk => by have := hr k hk; omega)
 a := h.a.on hg (fun e => by have := hr _ e.symm; omega)
 r := h.r.on hg (fun e => by have := hr _ e.symm; omega)
 x := h.x.on hg (fun e => by have := hr _ e.symm; omega)
theorem CU.drew {w wr : World} {arg : Array Value} {x0 x1 x2 : Value} (h : CU w wr arg x0 x1 x2) : CU w wr.drew arg x0 x1 x2 := ⟨h.below.drew, h.a, h.r, h.x⟩
theorem CU.put {w wr : World} {arg : Array Value} {x0 x1 x2 : Value} (h : CU w wr arg x0 x1 x2) (i : Nat) (v y0 y1 y2 : Value) (hy : (#[x0, x1, x2] : Array Value).set! i v = #[y0, y1, y2]) : CU w (wr.setCell ⟨w.heap.size + 1 + 1, i, none⟩ v) arg y0 y1 y2 where
 below := h.below.setCell (by show w.heap.size ≤ w.heap.size + 1 + 1; omega) _
 a := h.a.on (grown_put (grown_refl _ _) (pb := w.heap.size + 1 + 1) (off := i) v) (fun e => by have := Option.some.inj e; omega)
 r := h.r.on (grown_put (grown_refl _ _) (pb := w.heap.size + 1 + 1) (off := i) v) (fun e => by have := Option.some.inj e; omega)
 x := by rw [← hy]; exact h.x.set i v
theorem CU.cells {w wr : World} {g0 g1 g2 x0 x1 x2 : Value} (h : CU w wr #[g0, g1, g2] x0 x1 x2) :
  (wr.cell? ⟨w.heap.size, 0, none⟩ = some g0 ∧ wr.cell? ⟨w.heap.size, 1, none⟩ = some g1 ∧ wr.cell? ⟨w.heap.size, 2, none⟩ = some g2) ∧
  (wr.cell? ⟨w.heap.size + 1 + 1, 0, none⟩ = some x0 ∧ wr.cell? ⟨w.heap.size + 1 + 1, 1, none⟩ = some x1 ∧ wr.cell? ⟨w.heap.size + 1 + 1, 2, none⟩ = some x2) ∧ (∀ i, wr.frozen? ⟨w.heap.size + 1 + 1, i, none⟩ = false) :=
 ⟨⟨h.a.cell 0, h.a.cell 1, h.a.cell 2⟩, ⟨h.x.cell 0, h.x.cell 1, h.x.cell 2⟩, h.x.free⟩
theorem size_set (w : World) (a : Addr) (v : Value) : (w.setCell a v).heap.size = w.heap.size := by simp [World.setCell]
theorem CU.whole {w w1 w2 : World} {arg : Array Value} {x0 x1 x2 v' : Value} {e : TypeId} {n m : Nat} {news : List Value} (h : CU w w1 arg x0 x1 x2) (hA : Appended w1 w2 (w.heap.size + 3) e n (.slice none 0 0) v' 0 m [] news) : CU w w2 arg x0 x1 x2 :=
 h.step (row := none) hA.grown (fun k hk => by cases hk)
theorem CU.mark {w w1 w2 : World} {arg : Array Value} {x0 x1 x2 v v' : Value} {e : TypeId} {n k m : Nat} {xs news : List Value} (h : CU w w1 arg x0 x1 x2) (hA : Appended w1 w2 (w.heap.size + 3) e n v v' k m xs news) (ho : w1.ownsRow (w.heap.size + 3) e n v k xs) : CU w w2 arg x0 x1 x2 :=
 h.step hA.grown (fun q hq => (ho.lt q hq).1)
theorem HosC.move {w w' : World} {Z Z' : Nat → Prop} {d : Bool} {a : HH} {c : List Value} {row : Option Nat} (h : HosC w Z d a c) (hg : w.grownBy w' row) (hr : ∀ b, Z b → some b ≠ row) (hz : ∀ b, Z b → Z' b) : HosC w' Z' d a c := by
 obtain ⟨v, hv, h1⟩ := h
 exact ⟨v, hv, fun e => (h1 e).move hg hr hz⟩
theorem FunC.move {w w' : World} {Z Z' : Nat → Prop} {d d' : Bool} {a : FH} {c : List Value} {row : Option Nat} (h : FunC w Z d d' a c) (hg : w.grownBy w' row) (hr : ∀ b, Z b → some b ≠ row) (hz : ∀ b, Z b → Z' b) : FunC w' Z' d d' a c := by
 obtain ⟨v, v', hv, h1, h2⟩ := h
 exact ⟨v, v', hv, fun e => (h1 e).move hg hr hz, fun e => (h2 e).move hg hr hz⟩
abbrev HB (w : World) (B : Nat) (l : List HH) (v : Value) (k : Nat) : Prop := BldI w B 101 5 (fun i => HosC w (ZB B w.heap.size v) (decide (i < k))) l v
abbrev FB (w : World) (B : Nat) (l : List FH) (v : Value) (k k' : Nat) : Prop := BldI w B 43 6 (fun i => FunC w (ZB B w.heap.size v) (decide (i < k)) (decide (i < k'))) l v
theorem own_ne {v : Value} {B N q : Nat} (h : ∀ k, v.ownBlock = some k → B ≤ k ∧ k < N) (hq : q < B) : v.ownBlock = none ∨ v.ownBlock ≠ some q := .inr (fun e => by have := (h q e).1; omega)
theorem HB.call {w w2 : World} {B : Nat} {l : List HH} {v : Value} {k : Nat} (h : HB w B l v k) (hg : w.grownBy w2 none) : HB w2 B l v k :=
 BldI.on h hg (by cases v.ownBlock <;> simp) (fun i a c hc => hc.move hg (fun _ _ => by simp) (fun b hb => ⟨hb.1, Nat.lt_of_lt_of_le hb.2.1 hg.size, hb.2.2⟩))
theorem FB.call {w w2 : World} {B : Nat} {l : List FH} {v : Value} {k k' : Nat} (h : FB w B l v k k') (hg : w.grownBy w2 none) : FB w2 B l v k k' :=
 BldI.on h hg (by cases v.ownBlock <;> simp) (fun i a c hc => hc.move hg (fun _ _ => by simp) (fun b hb => ⟨hb.1, Nat.lt_of_lt_of_le hb.2.1 hg.size, hb.2.2⟩))
theorem HB.other {w w2 : World} {B : Nat} {l : List HH} {v : Value} {k : Nat} (h : HB w B l v k) {q : Nat} (hg : w.grownBy w2 (some q)) (hq : q < B) : HB w2 B l v k :=
 BldI.on h hg (own_ne h.lt hq) (fun i a c hc => hc.move hg (fun b hb => by have := hb.1; simp; omega) (fun b hb => ⟨hb.1, Nat.lt_of_lt_of_le hb.2.1 hg.size, hb.2.2⟩))
theorem FB.other {w w2 : World} {B : Nat} {l : List FH} {v : Value} {k k' : Nat} (h : FB w B l v k k') {q : Nat} (hg : w.grownBy w2 (some q)) (hq : q < B) : FB w2 B l v k k' :=
 BldI.on h hg (own_ne h.lt hq) (fun i a c hc => hc.move hg (fun b hb => by have := hb.1; simp; omega) (fun b hb => ⟨hb.1, Nat.lt_of_lt_of_le hb.2.1 hg.size, hb.2.2⟩))
theorem HB.put {w : World} {B : Nat} {l : List HH} {g m cap k : Nat} (h : HB w B l (.slice (some ⟨g, 0, none⟩) m cap) k) (hm : m = l.length) (hk : k < l.length) {u : Value} {Z0 : Nat → Prop} (hu : SlPz w (some Z0) l[k].params u) (hz : ∀ b, Z0 b → ZB B w.heap.size (.slice (some ⟨g, 0, none⟩) m cap) b) :
  HB (w.setCell ⟨g, k * 5 + 2, none⟩ u) B l (.slice (some ⟨g, 0, none⟩) m cap) (k + 1) := by
 have hg : w.grownBy (w.setCell ⟨g, k * 5 + 2, none⟩ u) (some g) := grown_put (grown_refl _ _) u
 have hs := size_set w ⟨g, k * 5 + 2, none⟩ u
 have hzz : ∀ b, ZB B w.heap.size (.slice (some ⟨g, 0, none⟩) m cap) b → ZB B (w.setCell ⟨g, k * 5 + 2, none⟩ u).heap.size (.slice (some ⟨g, 0, none⟩) m cap) b := fun b hb => ⟨hb.1, by rw [hs]; exact hb.2.1, hb.2.2⟩
 refine BldI.store h hm k hk 2 (by omega) u (fun i a c hi hc => ?_) (fun c hc => ?_)
 ·have hd : decide (i < k + 1) = decide (i < k) := by simp; omega
  show HosC _ _ (decide (i < k + 1)) a c
  rw [hd]
  exact HosC.move hc hg (fun b hb => hb.2.2) hzz
 ·obtain ⟨v, rfl, _⟩ := hc
  exact ⟨u, rfl, fun _ => hu.move hg (fun b hb => (hz b hb).2.2) (fun b hb => hzz b (hz b hb))⟩
theorem GloR.move {w w' : World} {p : Bool} {a : GH} {b q : Nat} {row : Option Nat} (h : GloR w p a b q) (hg : w.grownBy w' row) (hb : some b ≠ row) : GloR w' p a b q := by
 obtain ⟨⟨t, y0, y0'⟩, y1, y2, y3, y4⟩ := h
 exact ⟨⟨t, hg.cell y0 hb, y0'⟩, hg.cell y1 hb, hg.cell y2 hb, hg.cell y3 hb, hg.cell y4 hb⟩
theorem HosR.move {w w' : World} {p : Bool} {Z Z' : Nat → Prop} {a : HH} {b q : Nat} {row : Option Nat} (h : HosR w p (some Z) a b q) (hg : w.grownBy w' row) (hr : ∀ b, Z b → some b ≠ row) (hz : ∀ b, Z b → Z' b) (hb : some b ≠ row) : HosR w' p (some Z') a b q := by
 obtain ⟨⟨t, y0, y0'⟩, y1, ⟨v, y2, hv⟩, y3, y4⟩ := h
 exact ⟨⟨t, hg.cell y0 hb, y0'⟩, hg.cell y1 hb, ⟨v, hg.cell y2 hb, hv.move hg hr hz⟩, hg.cell y3 hb, hg.cell y4 hb⟩
theorem FunR.move {w w' : World} {p : Bool} {Z Z' : Nat → Prop} {a : FH} {b q : Nat} {row : Option Nat} (h : FunR w p (some Z) a b q) (hg : w.grownBy w' row) (hr : ∀ b, Z b → some b ≠ row) (hz : ∀ b, Z b → Z' b) (hb : some b ≠ row) : FunR w' p (some Z') a b q := by
 obtain ⟨⟨t, y0, y0'⟩, y1, ⟨v, y2, hv⟩, y3, y4, ⟨x, y5, hx⟩⟩ := h
 exact ⟨⟨t, hg.cell y0 hb, y0'⟩, hg.cell y1 hb, ⟨v, hg.cell y2 hb, hv.move hg hr hz⟩, hg.cell y3 hb, hg.cell y4 hb, ⟨x, hg.cell y5 hb, hx.move hg hr hz⟩⟩
theorem SlG.move {w w' : World} {p : Bool} {Z Z' : Nat → Prop} {l : List GH} {v : Value} {row : Option Nat} (h : SlG w p (some Z) l v) (hg : w.grownBy w' row) (hr : ∀ b, Z b → some b ≠ row) (hz : ∀ b, Z b → Z' b) : SlG w' p (some Z') l v := SlR.move h hg hr hz (fun a b q hb h => h.move hg hb)
theorem SlH.move {w w' : World} {p : Bool} {Z Z' : Nat → Prop} {l : List HH} {v : Value} {row : Option Nat} (h : SlH w p (some Z) l v) (hg : w.grownBy w' row) (hr : ∀ b, Z b → some b ≠ row) (hz : ∀ b, Z b → Z' b) : SlH w' p (some Z') l v := SlR.move h hg hr hz (fun a b q hb h => h.move hg hr hz hb)
theorem SlF.move {w w' : World} {p : Bool} {Z Z' : Nat → Prop} {l : List FH} {v : Value} {row : Option Nat} (h : SlF w p (some Z) l v) (hg : w.grownBy w' row) (hr : ∀ b, Z b → some b ≠ row) (hz : ∀ b, Z b → Z' b) : SlF w' p (some Z') l v := SlR.move h hg hr hz (fun a b q hb h => h.move hg hr hz hb)
theorem HB.done {B : Nat} {l : List HH} {wr w3 : World} {x0 : Value} {g k cap : Nat} {mark : List Value} {cs : List (List Value)} (hA : Appended wr w3 B 101 5 x0 (.slice (some ⟨g, 0, none⟩) (k + 1) cap) k 1 cs.flatten mark)
  (h1 : cs.length = l.length) (h2 : ∀ i (h : i < l.length) (h' : i < cs.length), cs[i].length = 5 ∧ HosC wr (ZB B wr.heap.size x0) (decide (i < k)) l[i] cs[i]) (hlt : ∀ q, x0.ownBlock = some q → q < wr.heap.size) (hB : B ≤ wr.heap.size) (hg : B ≤ g) (hm : k = l.length) (hmk : mark[0]? = some (markV 101) := by rfl) :
  SlH w3 true (some fun b => B ≤ b ∧ b < w3.heap.size) l (.slice (some ⟨g, 0, none⟩) k cap) := by
 subst hm
 have hSt := mkStep (B := B) (grown_refl wr none) hA hlt hB
 have hg3 : g < w3.heap.size := (hA.own.lt g rfl).2
 refine Bld.done (R := HosC w3 (fun b => B ≤ b ∧ b < w3.heap.size) true) h1 (fun i h h' => ⟨(h2 i h h').1, ?_⟩) hA.own (by omega) (by decide) hmk ⟨hg, hg3⟩ (fun a c q hR hc => HosR.of hR hc)
 have := (h2 i h h').2
 rw [decide_eq_true h] at this
 exact this.move hSt.grown (fun b hb => hb.2.2) (fun b hb => ⟨hb.1, (hSt.oldz b hb).2.1⟩)
theorem FB.done {B : Nat} {l : List FH} {wr w3 : World} {x0 : Value} {g k cap : Nat} {mark : List Value} {cs : List (List Value)} (hA : Appended wr w3 B 43 6 x0 (.slice (some ⟨g, 0, none⟩) (k + 1) cap) k 1 cs.flatten mark)
  (h1 : cs.length = l.length) (h2 : ∀ i (h : i < l.length) (h' : i < cs.length), cs[i].length = 6 ∧ FunC wr (ZB B wr.heap.size x0) (decide (i < k)) (decide (i < k)) l[i] cs[i]) (hlt : ∀ q, x0.ownBlock = some q → q < wr.heap.size) (hB : B ≤ wr.heap.size) (hg : B ≤ g) (hm : k = l.length) (hmk : mark[0]? = some (markV 43) := by rfl) :
  SlF w3 true (some fun b => B ≤ b ∧ b < w3.heap.size) l (.slice (some ⟨g, 0, none⟩) k cap) := by
 subst hm
 have hSt := mkStep (B := B) (grown_refl wr none) hA hlt hB
 have hg3 : g < w3.heap.size := (hA.own.lt g rfl).2
 refine Bld.done (R := FunC w3 (fun b => B ≤ b ∧ b < w3.heap.size) true true) h1 (fun i h h' => ⟨(h2 i h h').1, ?_⟩) hA.own (by omega) (by decide) hmk ⟨hg, hg3⟩ (fun a c q hR hc => FunR.of hR hc)
 have := (h2 i h h').2
 rw [decide_eq_true h] at this
 exact this.move hSt.grown (fun b hb => hb.2.2) (fun b hb => ⟨hb.1, (hSt.oldz b hb).2.1⟩)
theorem GloC.done {B : Nat} {l : List GH} {w1 w3 : World} {x0 : Value} {g k cap : Nat} {mark : List Value} {cs : List (List Value)} (hA : Appended w1 w3 B 105 5 x0 (.slice (some ⟨g, 0, none⟩) (k + 1) cap) k 1 cs.flatten mark)
  (h1 : cs.length = l.length) (h2 : ∀ i (h : i < l.length) (h' : i < cs.length), cs[i].length = 5 ∧ GloC l[i] cs[i]) (hg : B ≤ g) (hm : k = l.length) (hmk : mark[0]? = some (markV 105) := by rfl) :
  SlG w3 true (some fun b => B ≤ b ∧ b < w3.heap.size) l (.slice (some ⟨g, 0, none⟩) k cap) := by
 subst hm
 have hg3 : g < w3.heap.size := (hA.own.lt g rfl).2
 exact Bld.done (R := GloC) h1 h2 hA.own (by omega) (by decide) hmk ⟨hg, hg3⟩ (fun a c q hR hc => GloR.of hR hc)
theorem HB.start {w0 w2 w3 : World} {Z0 : Nat → Prop} {B : Nat} {l : List HH} {v' : Value} {m : Nat} {cs : List (List Value)} (hA : Appended w2 w3 B 101 5 (.slice none 0 0) v' 0 m [] cs.flatten) (h1 : cs.length = l.length) (h2 : ∀ i (h : i < l.length) (h' : i < cs.length), cs[i].length = 5 ∧ HosC w0 Z0 false l[i] cs[i]) (hm : m = l.length) : HB w3 B l v' 0 :=
 BldI.whole hA h1 (fun i h h' => ⟨(h2 i h h').1, by obtain ⟨v, hv, _⟩ := (h2 i h h').2; exact ⟨v, hv, fun e => absurd (of_decide_eq_true e) (Nat.not_lt_zero _)⟩⟩) hm
theorem FB.start {w0 w2 w3 : World} {Z0 : Nat → Prop} {B : Nat} {l : List FH} {v' : Value} {m : Nat} {cs : List (List Value)} (hA : Appended w2 w3 B 43 6 (.slice none 0 0) v' 0 m [] cs.flatten) (h1 : cs.length = l.length) (h2 : ∀ i (h : i < l.length) (h' : i < cs.length), cs[i].length = 6 ∧ FunC w0 Z0 false false l[i] cs[i]) (hm : m = l.length) : FB w3 B l v' 0 0 :=
 BldI.whole hA h1 (fun i h h' => ⟨(h2 i h h').1, by obtain ⟨v, v', hv, _, _⟩ := (h2 i h h').2; exact ⟨v, v', hv, (fun e => absurd (of_decide_eq_true e) (Nat.not_lt_zero _)), (fun e => absurd (of_decide_eq_true e) (Nat.not_lt_zero _))⟩⟩) hm
structure FSt (w wr : World) (arg : Array Value) (x0 x1 x2 : Value) (u : UT) (vg vh : Value) (b2 b4 j j' : Nat) : Prop where
 c : CU w wr arg x0 x1 x2
 g : SlG wr true (some fun b => w.heap.size + 3 ≤ b ∧ b < b2) u.gs vg
 h : SlH wr true (some fun b => w.heap.size + 3 ≤ b ∧ b < b4) u.hs vh
 b : FB wr (w.heap.size + 3) u.fs x2 j j'
 s : b4 ≤ wr.heap.size
theorem FSt.call {w wr w' : World} {arg : Array Value} {x0 x1 x2 : Value} {u : UT} {vg vh : Value} {b2 b4 j j' : Nat} (h : FSt w wr arg x0 x1 x2 u vg vh b2 b4 j j') (hg : wr.grownBy w' none) : FSt w w' arg x0 x1 x2 u vg vh b2 b4 j j' where
 c := h.c.step hg (fun k h => by cases h)
 g := SlG.move h.g hg (fun _ _ => by simp) (fun _ h => h)
 h := SlH.move h.h hg (fun _ _ => by simp) (fun _ h => h)
 b := FB.call h.b hg
 s := Nat.le_trans h.s hg.size
theorem FSt.row {w wr : World} {arg : Array Value} {x0 x1 : Value} {u : UT} {vg vh : Value} {b2 b4 j j' g m cap : Nat} (h : FSt w wr arg x0 x1 (.slice (some ⟨g, 0, none⟩) m cap) u vg vh b2 b4 j j') (hm : m = u.fs.length) (k : Nat) (hk : k < u.fs.length) (i : Nat) (hi : i < 6) :
  (∃ v, wr.cell? ⟨g, k * 6 + i, none⟩ = some v) ∧ wr.frozen? ⟨g, k * 6 + i, none⟩ = false :=
 ⟨BldI.cell h.b hm k hk i hi, BldI.free h.b hm _⟩
end
end Go.Proofs.YtlabadkfkbenoaaGreatDoor
