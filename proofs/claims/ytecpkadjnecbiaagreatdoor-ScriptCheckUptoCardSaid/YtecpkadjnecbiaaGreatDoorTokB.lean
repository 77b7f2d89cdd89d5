/- Walks: letters, digits, a row of a name's runes. No condition. -/
import Derived.Test.YtecpkadjnecbiaaGreatDoorTokA
import Derived.WalkSmall
namespace Go.Proofs.YtecpkadjnecbiaaGreatDoor
open Go.RowKit
set_option linter.unusedVariables false
set_option linter.unusedSimpArgs false

open Go.Shelf
attribute [local go_sem] Oper.semAt_some

def letterB (r : Int) : Bool := decide (65 ≤ r ∧ r ≤ 90) || decide (97 ≤ r ∧ r ≤ 122) || decide (192 ≤ r)
def digitB (r : Int) : Bool := decide (48 ≤ r ∧ r ≤ 57)
def nameB (r : Int) : Bool := letterB r || digitB r || r == 95
theorem letter76 (r : Int) (w : World) : Calls Tryz.prog 76 #[.int .i32 r] w fun e w' => e = .returned (.bool (letterB r)) ∧ w' = w := by
  go_enter Tryz.func76, Tryz.ntmps76
  go_wp2_with fail
  all_goals
    go_ret
    exact ⟨ret_bool (by rw [Bool.eq_iff_iff]; simp [letterB]; omega), rfl⟩
theorem digit77 (r : Int) (w : World) : Calls Tryz.prog 77 #[.int .i32 r] w fun e w' => e = .returned (.bool (digitB r)) ∧ w' = w := by
  go_enter Tryz.func77, Tryz.ntmps77
  go_wp2_with fail
  all_goals
    go_ret
    exact ⟨ret_bool (by simp [digitB]; omega), rfl⟩
theorem named75 (r : Int) (w : World) : Calls Tryz.prog 75 #[.int .i32 r] w fun e w' => e = .returned (.bool (nameB r)) ∧ w' = w := by
  have h1 := letter76 r w
  have h2 := digit77 r w
  go_enter Tryz.func75, Tryz.ntmps75
  go_wp2_with fail
  refine h1.mono ?_
  rintro e w2 ⟨rfl, rfl⟩
  cases hl : letterB r
  · go_wp2_with fail
    refine h2.mono ?_
    rintro e w2 ⟨rfl, rfl⟩
    cases hd : digitB r
    · go_wp2_with fail
      go_ret
      exact ⟨ret_bool (by simp [nameB, hl, hd]), rfl⟩
    · go_wp2_with fail
      go_ret
      exact ⟨ret_bool (by simp [nameB, hl, hd]), rfl⟩
  · go_wp2_with fail
    go_ret
    exact ⟨ret_bool (by simp [nameB, hl]), rfl⟩
theorem cut_stops (n : Nat) (hn : 1 ≤ n) (Bn n₀ : Nat) (s : ByteArray) (hs : s.size ≤ 1048576) (w : World) (hBn : Bn < n₀) (hn0 : n₀ ≤ w.heap.size) (hc : w.cell? ⟨Bn, 0, none⟩ = some (.string s)) :
    SeqStopsK Fence.wide n Tryz.prog 96 #[.pointer (some ⟨Bn, 0, none⟩)] (fun x : Nat × Int => #[.int .i64 x.1, .int .i32 x.2]) (Kc n₀) (fun ys => ys = cuts s) (fun pre => pre <+: cuts s) (cuts s).length w :=
  fun l J Jx W hW hJ _ hY h0 => cut96 n hn l Bn n₀ s hs J Jx W hJ hY hBn (Nat.le_trans hn0 hW.size) ((hW.cell (p := ⟨Bn, 0, none⟩) (Nat.lt_of_lt_of_le hBn hn0)).trans hc) h0
theorem Kc.b {n₀ : Nat} {w : World} (hn : n₀ ≤ w.heap.size) (W : World) (l : Nat) (o o' : Obj) (hl : w.heap.size ≤ l) (h : W.heap[l]? = some o) (h1 : o.isCells = false) (h2 : o.isWalk = false) : Kc n₀ W (W.putObj l o') := ⟨belowK_b hn W l o o' hl h h1 h2, walksK_b (w := w) W l o o' hl h h1 h2⟩
/-- where the first rune lies that is none of a name -/
def stopAt (l : List (Nat × Int)) (n : Nat) : Nat := match l.find? (fun x => !nameB x.2) with
  | some x => x.1
  | none => n

theorem stop_none {l : List (Nat × Int)} {n : Nat} (h : ∀ y ∈ l, nameB y.2 = true) : stopAt l n = n := by
  unfold stopAt
  rw [List.find?_eq_none.2 (fun x hx => by simp [h x hx])]
theorem stop_at {l pre rest : List (Nat × Int)} {x : Nat × Int} {n : Nat} (hl : l = (pre ++ [x]) ++ rest) (h : ∀ y ∈ pre, nameB y.2 = true) (hx : nameB x.2 = false) : stopAt l n = x.1 := by
  subst hl
  unfold stopAt
  rw [List.append_assoc, List.find?_append, List.find?_eq_none.2 (fun y hy => by simp [h y hy])]
  simp [hx]
theorem cutsN_lt (s : ByteArray) : ∀ n i (x : Nat × Int), x ∈ cutsN s n i → x.1 < s.size
  | 0, _, _, h => by cases h
  | n + 1, i, x, h => by
    simp only [cutsN] at h
    split at h
    · rcases List.mem_cons.1 h with rfl | h'
      · assumption
      · exact cutsN_lt s n _ x h'
    · cases h
theorem cuts_lt (s : ByteArray) (x : Nat × Int) (h : x ∈ cuts s) : x.1 < s.size := cutsN_lt s _ _ x h

set_option maxRecDepth 100000 in
set_option maxHeartbeats 2000000 in
theorem row78 (s : ByteArray) (p : Nat) (w : World) (hs : s.size ≤ 1048576) (hp : p ≤ s.size) :
    Calls Tryz.prog 78 #[.string s, .int .i64 p, .func (.func 75) #[] #[]] w fun e w' => e = .returned (.int .i64 (p + stopAt (cuts (s.extract p s.size)) (s.size - p) : Nat)) ∧ Below w.heap.size w w' := by
  refine (callsIn_wide (n := 5)).1 ?_
  refine callsIn_of_wp_marks Tryz.func78 rfl trivial ?_ rfl
  simp only [Tryz.ntmps78, List.size_toArray, List.length_cons, List.length_nil, Nat.reduceAdd, Nat.reduceSub, Array.replicate_succ, Array.replicate_zero, List.push_toArray, List.append_toArray, List.nil_append, List.cons_append]
  gi_wp2_with (refine ⟨trivial, ?_⟩; gi_at_call 74; refine (callsIn_wide.2 (cutting74 _ _)).mono ?_; rintro e w' ⟨rfl, rfl⟩)
  obtain ⟨W0, hW0⟩ : ∃ W0, W0 = (((w.alloc (.cells #[.int .i64 p] 3)).alloc (.cells #[.func (.func 75) #[] #[]] 106)).alloc (.cells #[.int .i64 0] 3)).alloc (.cells #[.string (s.extract p s.size)] 9) := ⟨_, rfl⟩
  rw [← hW0]
  have hsz : W0.heap.size = w.heap.size + 4 := by rw [hW0]; simp
  have b4 : Boxed W0 w.heap.size 3 (.int .i64 p) := by rw [hW0]; exact (((Boxed.new w 3 _).alloc _).alloc _).alloc _
  have b5 : Boxed W0 (w.heap.size + 1) 106 (.func (.func 75) #[] #[]) := by
    rw [hW0]; have := ((Boxed.new (w.alloc (.cells #[.int .i64 p] 3)) 106 (.func (.func 75) #[] #[])).alloc (.cells #[.int .i64 0] 3)).alloc (.cells #[.string (s.extract p s.size)] 9); simpa using this
  have b6 : Boxed W0 (w.heap.size + 1 + 1) 3 (.int .i64 0) := by
    rw [hW0]; have := (Boxed.new ((w.alloc (.cells #[.int .i64 p] 3)).alloc (.cells #[.func (.func 75) #[] #[]] 106)) 3 (.int .i64 0)).alloc (.cells #[.string (s.extract p s.size)] 9); simpa using this
  have b7 : Boxed W0 (w.heap.size + 1 + 1 + 1) 9 (.string (s.extract p s.size)) := by
    rw [hW0]; have := Boxed.new (((w.alloc (.cells #[.int .i64 p] 3)).alloc (.cells #[.func (.func 75) #[] #[]] 106)).alloc (.cells #[.int .i64 0] 3)) 9 (.string (s.extract p s.size)); simpa using this
  have hB0 : Below w.heap.size w W0 := by rw [hW0]; exact ((((Below.refl _ w).alloc (Nat.le_refl _) _).alloc (by simp) _).alloc (by simp; omega) _).alloc (by simp; omega) _
  have hBox : ∀ W, Below W0.heap.size W0 W → Boxed W w.heap.size 3 (.int .i64 p) ∧ Boxed W (w.heap.size + 1) 106 (.func (.func 75) #[] #[]) ∧ Boxed W (w.heap.size + 1 + 1) 3 (.int .i64 0) := fun W h => ⟨(h.block _ (by omega)).trans b4, (h.block _ (by omega)).trans b5, (h.block _ (by omega)).trans b6⟩
  clear hW0
  refine wpIn_rangeFunc_ownF (w0 := W0) rfl (by omega) (gf := 96) (lb := #[.pointer (some ⟨w.heap.size + 1 + 1 + 1, 0, none⟩)]) rfl trivial (enters_of Tryz.func96 (by kernel_rfl) rfl)
    (cut_stops 4 (by omega) (w.heap.size + 1 + 1 + 1) W0.heap.size (s.extract p s.size) (by simp; omega) W0 (by omega) (Nat.le_refl _) b7.cell) Kc.t (Kc.b (Nat.le_refl _)) (Below.refl _ _) (fun _ => rfl)
    (fun pre W => (∀ y ∈ pre, nameB y.2 = true) ∧ Below W0.heap.size W0 W)
    (fun c pre W => ((∃ pre0 x, c = .ret ∧ pre = pre0 ++ [x] ∧ (∀ y ∈ pre0, nameB y.2 = true) ∧ nameB x.2 = false ∧ W.cell? ⟨w.heap.size + 1 + 1, 0, none⟩ = some (.int .i64 (wrap64 (p + x.1)))) ∧ Below w.heap.size w W))
    (OwnFrom.and (ownFrom_pure _ _) (ownFrom_below (Nat.le_refl _) (Nat.le_refl _)))
    (fun c => OwnFrom.and (Own.from (fun s A B row hs hg hr => by obtain ⟨q0, x, h1, h2, h3, h4, h5⟩ := hs; exact ⟨q0, x, h1, h2, h3, h4, cell_kept h5 hg hr⟩) _) (ownFrom_below (Nat.le_refl _) (by omega)))
    ⟨(fun y hy => by cases hy), Below.refl _ _⟩
    (fun x => { tmps := #[.string s, .int .i64 p, .func (.func 75) #[] #[], undef, .pointer (some ⟨w.heap.size, 0, none⟩), .pointer (some ⟨w.heap.size + 1, 0, none⟩), .pointer (some ⟨w.heap.size + 1 + 1, 0, none⟩), .int .i64 x.1, .int .i32 x.2, .string s, .int .i64 p, .string (s.extract p s.size), .func (.func 96) #[] #[.pointer (some ⟨w.heap.size + 1 + 1 + 1, 0, none⟩)], .int .i64 x.1, .int .i32 x.2, undef, undef, undef, undef, undef, undef, undef, undef, undef], defers := [] }) ?assign ?body ?done ?stop
  case assign =>
    intro l x W K hK
    gi_wp2
    exact hK
  case body =>
    rintro l pre x W ⟨hn, hB⟩ _
    obtain ⟨d4, d5, d6⟩ := hBox W hB
    have c4 := d4.cell
    have c5 := d5.cell
    have c6 := d6.cell
    have f6 := d6.frozen
    have hcall := named75 x.2 W
    cases hx : nameB x.2
    · rw [hx] at hcall
      gi_wp2_with (refine ⟨trivial, ?_⟩; gi_at_call 75; refine (CallsIn.inRound l (callsIn_wide.2 hcall)).mono ?_; rintro e w' ⟨rfl, rfl⟩)
      exact ⟨KeepsOthers.setCell _ _ _, ⟨pre, x, rfl, rfl, hn, hx, World.cell?_setCell_same' _ _ _ (by rw [c6]; rfl)⟩, (hB0.trans (hB.mono (by omega))).setCell (by simp; omega) _⟩
    · rw [hx] at hcall
      gi_wp2_with (refine ⟨trivial, ?_⟩; gi_at_call 75; refine (CallsIn.inRound l (callsIn_wide.2 hcall)).mono ?_; rintro e w' ⟨rfl, rfl⟩)
      refine ⟨KeepsOthers.refl _, ⟨Below.refl _ _, (KeepsOthers.refl _).walks⟩, fun y hy => ?_, hB⟩
      rcases List.mem_append.1 hy with h | h
      · exact hn y h
      · obtain rfl : y = x := by simpa using h
        exact hx
  case done =>
    rintro D ys W hD rfl ⟨hn, hB⟩ hK
    obtain ⟨d4, d5, d6⟩ := hBox W hB
    have c6 := d6.cell
    have f6 := d6.frozen
    gi_wp2
    have hK2 := (KeepsOthers.setCell W ⟨w.heap.size + 1 + 1, 0, none⟩ (.int .i64 s.size)).same D _ hK rfl
    have hc := cell_kept (World.cell?_setCell_same' W ⟨w.heap.size + 1 + 1, 0, none⟩ (.int .i64 s.size) (by rw [c6]; rfl)) (grownBy_putObj' _ D (.deferred none)) (fun r e => by cases e; exact ⟨_, hK2, rfl⟩)
    refine ⟨by simp, .inl ⟨_, _, rfl, run_takeDeferred hK2, ?_⟩⟩
    refine ⟨.int .i64 s.size, by simp [results, Tryz.results78, go_sem, hc], ?_, ?_⟩
    · rw [stop_none hn]
      congr 2
      omega
    · exact (((hB0.trans (hB.mono (by omega))).setCell (p := ⟨w.heap.size + 1 + 1, 0, none⟩) (by simp; omega) _)).trans (belowK_b (w := W0) (by omega) _ D _ _ hD hK2 rfl rfl)
  case stop =>
    rintro D c pre W hD hpre ⟨⟨pre0, x, rfl, rfl, h3, h4, h5⟩, hB⟩ hK
    gi_wp2
    obtain ⟨rest, hr⟩ := hpre
    have hx := stop_at (n := s.size - p) hr.symm h3 h4
    have hlt := cuts_lt (s.extract p s.size) x (by rw [← hr]; simp)
    have hw : wrap64 ((p : Int) + (x.1 : Int)) = ((p + x.1 : Nat) : Int) := by
      simp at hlt
      rw [show (p : Int) + (x.1 : Int) = ((p + x.1 : Nat) : Int) by omega]
      unfold wrap64
      omega
    rw [hw] at h5
    have hc := cell_kept h5 (grownBy_putObj' _ D (.deferred none)) (fun r e => by cases e; exact ⟨_, hK, rfl⟩)
    refine ⟨by simp, .inl ⟨_, _, rfl, run_takeDeferred hK, ?_⟩⟩
    refine ⟨.int .i64 ((p + x.1 : Nat) : Int), by simp [results, Tryz.results78, go_sem, hc], by rw [hx], ?_⟩
    exact hB.trans (belowK_b (w := W0) (by omega) _ D _ _ hD hK rfl rfl)

end Go.Proofs.YtecpkadjnecbiaaGreatDoor
