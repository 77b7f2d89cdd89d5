/- Walks: a token: it answers, and where. No condition. -/
import Derived.Test.YtecpkadjnecbiaaGreatDoorProg
import Derived.Test.YtecpkadjnecbiaaGreatDoorTokH
namespace Go.Proofs.YtecpkadjnecbiaaGreatDoor
open Go.RowKit
set_option linter.unusedVariables false
set_option linter.unusedSimpArgs false

open Go.Shelf
attribute [local go_sem] Oper.semAt_some

def startB (c : Int) : Bool := letterB c || c == 95
/-- the code with which the text behind a place begins -/
def codeFrom (s : ByteArray) (p : Nat) : Int := codeAt (s.extract p s.size) 0
def wordEnd (s : ByteArray) (p : Nat) : Nat := p + stopAt (cuts (s.extract p s.size)) (s.size - p)
theorem cuts_first (s : ByteArray) (h : 0 < s.size) : ∃ l, cuts s = (0, codeAt s 0) :: l := by
  unfold cuts
  obtain ⟨n, hn⟩ : ∃ n, s.size = n + 1 := ⟨s.size - 1, by omega⟩
  rw [hn]
  simp only [cutsN]
  rw [if_pos (by omega)]
  exact ⟨_, rfl⟩
theorem stop_pos {l : List (Nat × Int)} {c : Int} {s : ByteArray} (hl : cuts s = (0, c) :: l) (hc : nameB c = true) (h0 : ∀ n i (x : Nat × Int), x ∈ cutsN s n i → i ≤ x.1) : 0 < s.size → 0 < stopAt (cuts s) s.size ∧ stopAt (cuts s) s.size ≤ s.size := by
  intro hs
  unfold stopAt
  split
  · rename_i x hx
    have h1 := List.find?_some hx
    have h2 := List.mem_of_find?_eq_some hx
    refine ⟨?_, by have := cuts_lt s x h2; omega⟩
    rw [hl] at h2
    rcases List.mem_cons.1 h2 with rfl | h3
    · simp [hc] at h1
    · unfold cuts at hl
      obtain ⟨n, hn⟩ : ∃ n, s.size = n + 1 := ⟨s.size - 1, by omega⟩
      rw [hn] at hl
      simp only [cutsN] at hl
      rw [if_pos (by omega)] at hl
      injection hl with _ hl
      rw [← hl] at h3
      have := h0 _ _ _ h3
      have := decode_wide s 0
      omega
  · omega
theorem cutsN_ge (s : ByteArray) : ∀ n i (x : Nat × Int), x ∈ cutsN s n i → i ≤ x.1
  | 0, _, _, h => by cases h
  | n + 1, i, x, h => by
    simp only [cutsN] at h
    split at h
    · rcases List.mem_cons.1 h with rfl | h'
      · exact Nat.le_refl _
      · have := cutsN_ge s n _ x h'
        omega
    · cases h
theorem wordEnd_gt (s : ByteArray) (p : Nat) (hp : p < s.size) (hc : nameB (codeFrom s p) = true) : p < wordEnd s p ∧ wordEnd s p ≤ s.size := by
  have hsz : (s.extract p s.size).size = s.size - p := by simp
  obtain ⟨l, hl⟩ := cuts_first (s.extract p s.size) (by omega)
  have := stop_pos hl hc (cutsN_ge _) (by omega)
  rw [hsz] at this
  unfold wordEnd
  omega
/-- a code below 128 is its byte -/
theorem code_byte (s : ByteArray) (p : Nat) (hp : p < s.size) (h : 0 ≤ codeFrom s p) (h2 : codeFrom s p < 128) : codeFrom s p = ((s[p]'hp).toNat : Int) := by
  have hsz : (s.extract p s.size).size = s.size - p := by simp
  have hg : (s.extract p s.size).get! 0 = s[p]'hp := by
    rw [get_at (s.extract p s.size) 0 (by omega)]
    have := ByteArray.getElem_extract (b := s) (start := p) (stop := s.size) (i := 0) (by omega : 0 < (s.extract p s.size).size)
    simpa using this
  unfold codeFrom codeAt at h h2 ⊢
  split at h
  · omega
  · rename_i hn
    rw [if_neg hn] at h2 ⊢
    have hb : ∀ k, ((s.extract p s.size).get! (0 + k)).toNat < 256 := fun k => ((s.extract p s.size).get! (0 + k)).toNat_lt
    have h0 := hb 0; have h1 := hb 1; have h3 := hb 2; have h4 := hb 3
    rw [← hg]
    revert h h2
    simp only [Utf8.decode]
    repeat' split
    all_goals simp_all [Utf8.runeError, Utf8.valid]
    all_goals omega
def Tk (s : ByteArray) (p : Nat) (kd en er : Int) : Prop :=
  (er = 0 → ∃ n : Nat, en = n ∧ p < n ∧ n ≤ s.size) ∧ (startB (codeFrom s p) = true → kd = 1 ∧ er = 0 ∧ en = (wordEnd s p : Nat)) ∧ (startB (codeFrom s p) = false → kd ≠ 1)
def TkR (s : ByteArray) (p : Nat) (w : World) (e : Ending) (w' : World) : Prop :=
  (∃ kd en er : Int, e = .returned (.tuple #[.int .u8 kd, .int .i64 en, .int .i64 er]) ∧ Tk s p kd en er) ∧ Below w.heap.size w w'
theorem Tk.word {s : ByteArray} {p : Nat} (hs : startB (codeFrom s p) = true) (hp : p < s.size) : Tk s p 1 (wordEnd s p : Nat) 0 := by
  have h := wordEnd_gt s p hp (by unfold startB at hs; unfold nameB; revert hs; cases letterB (codeFrom s p) <;> simp <;> intro h <;> simp [h])
  exact ⟨fun _ => ⟨_, rfl, h⟩, fun _ => ⟨rfl, rfl, rfl⟩, fun h => by rw [hs] at h; cases h⟩
theorem Tk.other {s : ByteArray} {p : Nat} {kd en er : Int} (hs : startB (codeFrom s p) = false) (hk : kd ≠ 1) (h : er = 0 → ∃ n : Nat, en = n ∧ p < n ∧ n ≤ s.size) : Tk s p kd en er :=
  ⟨h, fun h => (by rw [hs] at h; cases h), fun _ => hk⟩
set_option maxRecDepth 100000 in
set_option maxHeartbeats 40000000 in
theorem token56 (s : ByteArray) (p : Nat) (w : World) (hs : s.size ≤ 1048576) (hp : p < s.size) : Calls Tryz.prog 56 #[.string s, .int .i64 p, .slice none 0 0] w (TkR s p w) := by
  refine (callsIn_wide (n := 5)).1 ?_
  refine callsIn_of_wp_marks Tryz.func56 rfl trivial ?_ rfl
  simp only [Tryz.ntmps56, List.size_toArray, List.length_cons, List.length_nil, Nat.reduceAdd, Nat.reduceSub, Array.replicate_succ, Array.replicate_zero, List.push_toArray, List.append_toArray, List.nil_append, List.cons_append]
  gi_wp2_with (refine ⟨trivial, ?_⟩; gi_at_call 74; refine (callsIn_wide.2 (cutting74 _ _)).mono ?_; rintro e w' ⟨rfl, rfl⟩)
  obtain ⟨W0, hW0⟩ : ∃ W0, W0 = (w.alloc (.cells #[.int .i32 (-1)] 21)).alloc (.cells #[.string (s.extract p s.size)] 9) := ⟨_, rfl⟩
  rw [← hW0]
  have hsz : W0.heap.size = w.heap.size + 2 := by rw [hW0]; simp
  have hB0 : Below w.heap.size w W0 := by rw [hW0]; exact ((Below.refl _ w).alloc (Nat.le_refl _) _).alloc (by simp) _
  have b4 : Boxed W0 w.heap.size 21 (.int .i32 (-1)) := by rw [hW0]; exact (Boxed.new w 21 _).alloc _
  have b7 : Boxed W0 (w.heap.size + 1) 9 (.string (s.extract p s.size)) := by
    rw [hW0]; have := Boxed.new (w.alloc (.cells #[.int .i32 (-1)] 21)) 9 (.string (s.extract p s.size)); simpa using this
  clear hW0
  have hext : (s.extract p s.size).size = s.size - p := by simp
  obtain ⟨lc, hlc⟩ := cuts_first (s.extract p s.size) (by omega)
  refine wpIn_rangeFunc_ownF (w0 := W0) rfl (by omega) (gf := 96) (lb := #[.pointer (some ⟨w.heap.size + 1, 0, none⟩)]) rfl trivial (enters_of Tryz.func96 (by kernel_rfl) rfl)
    (cut_stops 4 (by omega) (w.heap.size + 1) W0.heap.size (s.extract p s.size) (by simp; omega) W0 (by omega) (Nat.le_refl _) b7.cell) Kc.t (Kc.b (Nat.le_refl _)) (Below.refl _ _) (fun _ => rfl)
    (fun pre W => pre = [] ∧ Below W0.heap.size W0 W)
    (fun c pre W => ((∃ x, c = .exit 0 ∧ pre = [x] ∧ W.cell? ⟨w.heap.size, 0, none⟩ = some (.int .i32 x.2)) ∧ Below w.heap.size w W))
    (OwnFrom.and (ownFrom_pure _ _) (ownFrom_below (Nat.le_refl _) (Nat.le_refl _)))
    (fun c => OwnFrom.and (Own.from (fun s A B row hs hg hr => by obtain ⟨x, h1, h2, h3⟩ := hs; exact ⟨x, h1, h2, cell_kept h3 hg hr⟩) _) (ownFrom_below (Nat.le_refl _) (by omega)))
    ⟨rfl, Below.refl _ _⟩
    (fun x => { tmps := #[.string s, .int .i64 p, .slice none 0 0, undef, undef, undef, .int .u8 0, .int .i64 0, .int .i64 0, .pointer (some ⟨w.heap.size, 0, none⟩), undef, .int .i32 x.2, undef, undef, undef, undef, undef, undef, .string s, .int .i64 p, .string (s.extract p s.size), .func (.func 96) #[] #[.pointer (some ⟨w.heap.size + 1, 0, none⟩)], .int .i64 x.1, .int .i32 x.2, undef, undef, undef, undef, undef, undef, undef, undef, undef, undef, undef, undef, undef, undef, undef, undef, undef, undef, undef, undef, undef, undef, undef, undef, undef, undef, undef, undef, undef, undef, undef, undef, undef, undef, undef, undef, undef, undef, undef, undef, undef, undef, undef, undef, undef, undef, undef, undef, undef, undef, undef, undef, undef, undef, undef, undef, undef, undef, undef], defers := [] }) ?assign ?body ?done ?stop
  case assign =>
    intro l x W K hK
    gi_wp2
    exact hK
  case body =>
    rintro l pre x W ⟨rfl, hB⟩ _
    have d4 := (hB.block w.heap.size (by omega)).trans b4
    have c4 := Boxed.cell d4
    have f4 := Boxed.frozen d4
    gi_wp2
    exact ⟨KeepsOthers.setCell _ _ _, ⟨x, rfl, rfl, World.cell?_setCell_same' _ _ _ (by rw [c4]; rfl)⟩, (hB0.trans (hB.mono (by omega))).setCell (by simp) _⟩
  case done =>
    rintro D ys W hD rfl ⟨h1, hB⟩ hK
    rw [hlc] at h1
    cases h1
  case stop =>
    rintro D c pre W hD hpre ⟨⟨x, rfl, rfl, h5⟩, hB⟩ hK
    have hx : x.2 = codeFrom s p := by
      obtain ⟨rest, hr⟩ := hpre
      rw [hlc] at hr
      injection hr with h1 _
      rw [h1]
      rfl
    rw [hx] at h5
    clear hx hpre hlc b4 b7
    have hBB := hid hB
    have hK' := hid hK
    clear hB hK
    have hDl : D < W.heap.size := by
      rcases Nat.lt_or_ge D W.heap.size with h | h
      · exact h
      · have := hK'.out; rw [Array.getElem?_eq_none h] at this; cases this
    have c76 := letter76 (codeFrom s p) W
    have c77 := digit77 (codeFrom s p) W
    have hW : w.heap.size ≤ W.heap.size := hBB.out.size
    by_cases h10 : codeFrom s p = 10
    · have hns : startB (codeFrom s p) = false := by rw [h10]; decide
      have hq : (codeFrom s p == 10) = true := by simp [h10]
      gi_wp2
      refine ⟨by simp, .inl ⟨_, _, rfl, run_takeDeferred hK'.out, ?_⟩⟩
      exact ⟨.tuple #[.int .u8 6, .int .i64 (p + 1), .int .i64 0], by simp [results, Tryz.results56, go_sem], ⟨_, _, _, rfl, .other hns (by decide) (fun _ => ⟨p + 1, by omega, by omega, by omega⟩)⟩, hBB.out.trans (belowK_b (w := W0) (by omega) _ D _ _ hD hK'.out rfl rfl)⟩
    have hq10 : (codeFrom s p == 10) = false := by simp [h10]
    have c78 := row78 s p W hs (by omega)
    have A78 : ∀ {e : Ending} {w2 : World}, e = .returned (.int .i64 (p + stopAt (cuts (s.extract p s.size)) (s.size - p) : Nat)) → e = .returned (.int .i64 (wordEnd s p : Nat)) := fun h => h
    gi_wp2
    refine ⟨trivial, ?_⟩
    refine (callsIn_wide.2 c76).mono ?_
    rintro e w' ⟨rfl, hw⟩
    subst w'
    clear c76
    cases hlb : letterB (codeFrom s p)
    rotate_left
    · have hend := Tk.word (s := s) (p := p) (by unfold startB; rw [hlb]; rfl) hp
      gi_wp2
      refine ⟨trivial, ?_⟩
      refine (callsIn_wide.2 c78).mono ?_
      rintro e w2 ⟨he, hb2⟩
      obtain rfl := A78 (w2 := w2) he
      clear he
      have hK2 := hid (show w2.heap[D]? = some (.deferred (some [])) from (hb2.block D hDl).trans hK'.out)
      have hB2 := hid (hBB.out.trans (hb2.mono hW))
      clear hb2
      gi_wp2
      refine ⟨by simp, .inl ⟨_, _, rfl, run_takeDeferred hK2.out, ?_⟩⟩
      exact ⟨.tuple #[.int .u8 1, .int .i64 (wordEnd s p : Nat), .int .i64 0], by simp [results, Tryz.results56, go_sem], ⟨_, _, _, rfl, hend⟩, hB2.out.trans (belowK_b (w := W0) (by omega) _ D _ _ hD hK2.out rfl rfl)⟩
    by_cases h95' : codeFrom s p = 95
    · have h95 : (codeFrom s p == 95) = true := by simp [h95']
      have hend := Tk.word (s := s) (p := p) (by unfold startB; rw [h95]; simp) hp
      gi_wp2
      refine ⟨trivial, ?_⟩
      refine (callsIn_wide.2 c78).mono ?_
      rintro e w2 ⟨he, hb2⟩
      obtain rfl := A78 (w2 := w2) he
      clear he
      have hK2 := hid (show w2.heap[D]? = some (.deferred (some [])) from (hb2.block D hDl).trans hK'.out)
      have hB2 := hid (hBB.out.trans (hb2.mono hW))
      clear hb2
      gi_wp2
      refine ⟨by simp, .inl ⟨_, _, rfl, run_takeDeferred hK2.out, ?_⟩⟩
      exact ⟨.tuple #[.int .u8 1, .int .i64 (wordEnd s p : Nat), .int .i64 0], by simp [results, Tryz.results56, go_sem], ⟨_, _, _, rfl, hend⟩, hB2.out.trans (belowK_b (w := W0) (by omega) _ D _ _ hD hK2.out rfl rfl)⟩
    have h95 : (codeFrom s p == 95) = false := by simp [h95']
    have hst : startB (codeFrom s p) = false := by unfold startB; rw [hlb, h95]; rfl
    clear c78
    gi_wp2
    refine ⟨trivial, ?_⟩
    refine (callsIn_wide.2 c77).mono ?_
    rintro e w' ⟨rfl, hw⟩
    subst w'
    clear c77
    cases hdg : digitB (codeFrom s p)
    rotate_left
    · have hcb : codeFrom s p = ((s[p]'hp).toNat : Int) := code_byte s p hp (by unfold digitB at hdg; simp at hdg; omega) (by unfold digitB at hdg; simp at hdg; omega)
      have c79 := figured79 s p W hs hp (by rw [← hcb]; exact hdg)
      gi_wp2
      refine ⟨trivial, ?_⟩
      refine (callsIn_wide.2 c79).mono ?_
      rintro e w2 ⟨⟨k, rfl, hk1, hk2⟩, hw⟩
      subst w2
      have hk3 := hid (And.intro hk1 hk2)
      clear hk1 hk2
      gi_wp2
      refine ⟨by simp, .inl ⟨_, _, rfl, run_takeDeferred hK'.out, ?_⟩⟩
      exact ⟨.tuple #[.int .u8 2, .int .i64 k, .int .i64 0], by simp [results, Tryz.results56, go_sem], ⟨_, _, _, rfl, .other hst (by decide) (fun _ => ⟨k, rfl, hk3.out⟩)⟩, hBB.out.trans (belowK_b (w := W0) (by omega) _ D _ _ hD hK'.out rfl rfl)⟩
    have c80 := literal80 s p W hs hp
    obtain ⟨z, hz0⟩ : ∃ z, z = (⟨#[]⟩ : ByteArray) := ⟨_, rfl⟩
    have hz : z.toList.isEmpty = true := by rw [hz0, ByteArray.toList_eq]; rfl
    have c81 : Calls Tryz.prog 81 #[.string s, .int .i64 p, .slice none 0 0] W fun e w' => e = .returned (.string z) ∧ w' = W := by rw [hz0]; exact signed81 s p W
    clear hz0
    by_cases h34 : codeFrom s p = 34
    · have hq34 : (codeFrom s p == 34) = true := by simp [h34]
      gi_wp2
      refine ⟨trivial, ?_⟩
      refine (callsIn_wide.2 c80).mono ?_
      rintro e w2 ⟨⟨k, er, rfl, hk⟩, hb2⟩
      have hK2 := hid (show w2.heap[D]? = some (.deferred (some [])) from (hb2.block D hDl).trans hK'.out)
      have hB2 := hid (hBB.out.trans (hb2.mono hW))
      clear hb2
      have hk' := hid hk
      clear hk
      gi_wp2
      refine ⟨by simp, .inl ⟨_, _, rfl, run_takeDeferred hK2.out, ?_⟩⟩
      exact ⟨.tuple #[.int .u8 3, .int .i64 k, .int .i64 er], by simp [results, Tryz.results56, go_sem], ⟨_, _, _, rfl, .other hst (by decide) hk'.out⟩, hB2.out.trans (belowK_b (w := W0) (by omega) _ D _ _ hD hK2.out rfl rfl)⟩
    have hq34 : (codeFrom s p == 34) = false := by simp [h34]
    by_cases h39 : codeFrom s p = 39
    · have hq39 : (codeFrom s p == 39) = true := by simp [h39]
      gi_wp2
      refine ⟨trivial, ?_⟩
      refine (callsIn_wide.2 c80).mono ?_
      rintro e w2 ⟨⟨k, er, rfl, hk⟩, hb2⟩
      have hK2 := hid (show w2.heap[D]? = some (.deferred (some [])) from (hb2.block D hDl).trans hK'.out)
      have hB2 := hid (hBB.out.trans (hb2.mono hW))
      clear hb2
      have hk' := hid hk
      clear hk
      gi_wp2
      refine ⟨by simp, .inl ⟨_, _, rfl, run_takeDeferred hK2.out, ?_⟩⟩
      exact ⟨.tuple #[.int .u8 4, .int .i64 k, .int .i64 er], by simp [results, Tryz.results56, go_sem], ⟨_, _, _, rfl, .other hst (by decide) hk'.out⟩, hB2.out.trans (belowK_b (w := W0) (by omega) _ D _ _ hD hK2.out rfl rfl)⟩
    have hq39 : (codeFrom s p == 39) = false := by simp [h39]
    clear c80
    gi_wp2
    refine ⟨trivial, ?_⟩
    refine (callsIn_wide.2 c81).mono ?_
    rintro e w' ⟨rfl, hw⟩
    subst w'
    clear c81
    by_cases hneg : codeFrom s p < 0
    · have hng : decide (codeFrom s p < 0) = true := by simp [hneg]
      gi_wp2
      refine ⟨by simp, .inl ⟨_, _, rfl, run_takeDeferred hK'.out, ?_⟩⟩
      exact ⟨.tuple #[.int .u8 0, .int .i64 p, .int .i64 13], by simp [results, Tryz.results56, go_sem], ⟨_, _, _, rfl, .other hst (by decide) (fun h => absurd h (by decide))⟩, hBB.out.trans (belowK_b (w := W0) (by omega) _ D _ _ hD hK'.out rfl rfl)⟩
    · have hng : decide (codeFrom s p < 0) = false := by simp; omega
      gi_wp2
      refine ⟨by simp, .inl ⟨_, _, rfl, run_takeDeferred hK'.out, ?_⟩⟩
      exact ⟨.tuple #[.int .u8 0, .int .i64 p, .int .i64 10], by simp [results, Tryz.results56, go_sem], ⟨_, _, _, rfl, .other hst (by decide) (fun h => absurd h (by decide))⟩, hBB.out.trans (belowK_b (w := W0) (by omega) _ D _ _ hD hK'.out rfl rfl)⟩

end Go.Proofs.YtecpkadjnecbiaaGreatDoor
