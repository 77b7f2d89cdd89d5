/- Walks and plain laws, merged: TokB TreeL TreeM TreeN TreeO. No condition. -/
import Derived.WalkSmall
import Derived.Test.YtlabadkfkbenoaaGreatDoorKn03
import Derived.OneCell
import Derived.RegionTactic
import Derived.ChangeAlike
import Derived.Test.YtlabadkfkbenoaaGreatDoorKn02
import Derived.Outline
import Derived.Test.YtlabadkfkbenoaaGreatDoorKn01
namespace Go.Proofs.YtlabadkfkbenoaaGreatDoor
open Go.RowKit
set_option linter.unusedVariables false
set_option linter.unusedSimpArgs false
set_option maxRecDepth 100000
section
open Go.Shelf
attribute [local go_sem] Oper.semAt_some
def letterB (r : Int) : Bool := decide (65 ≤ r ∧ r ≤ 90) || decide (97 ≤ r ∧ r ≤ 122) || decide (192 ≤ r)
def digitB (r : Int) : Bool := decide (48 ≤ r ∧ r ≤ 57)
def nameB (r : Int) : Bool := letterB r || digitB r || r == 95
theorem letter76 (r : Int) (w : World) : Calls Tryz.prog 230 #[.int .i32 r] w fun e w' => e = .returned (.bool (letterB r)) ∧ w' = w := by
 go_enter Tryz.func230, Tryz.ntmps230
 go_wp2_with fail
 all_goals
  go_ret
  exact ⟨ret_bool (by rw [Bool.eq_iff_iff]; simp [letterB]; omega), rfl⟩
theorem digit77 (r : Int) (w : World) : Calls Tryz.prog 231 #[.int .i32 r] w fun e w' => e = .returned (.bool (digitB r)) ∧ w' = w := by
 go_enter Tryz.func231, Tryz.ntmps231
 go_wp2_with fail
 all_goals
  go_ret
  exact ⟨ret_bool (by simp [digitB]; omega), rfl⟩
theorem named75 (r : Int) (w : World) : Calls Tryz.prog 229 #[.int .i32 r] w fun e w' => e = .returned (.bool (nameB r)) ∧ w' = w := by
 have h1 := letter76 r w
 have h2 := digit77 r w
 go_enter Tryz.func229, Tryz.ntmps229
 go_wp2_with fail
 refine h1.mono ?_
 rintro e w2 ⟨rfl, rfl⟩
 cases hl : letterB r
 ·go_wp2_with fail
  refine h2.mono ?_
  rintro e w2 ⟨rfl, rfl⟩
  cases hd : digitB r
  ·go_wp2_with fail
   go_ret
   exact ⟨ret_bool (by simp [nameB, hl, hd]), rfl⟩
  ·go_wp2_with fail
   go_ret
   exact ⟨ret_bool (by simp [nameB, hl, hd]), rfl⟩
 ·go_wp2_with fail
  go_ret
  exact ⟨ret_bool (by simp [nameB, hl]), rfl⟩
theorem cut_stops (n : Nat) (hn : 1 ≤ n) (Bn n₀ : Nat) (s : ByteArray) (hs : s.size ≤ 1048576) (w : World) (hBn : Bn < n₀) (hn0 : n₀ ≤ w.heap.size) (hc : w.cell? ⟨Bn, 0, none⟩ = some (.string s)) :
  SeqStopsK Fence.wide n Tryz.prog 253 #[.pointer (some ⟨Bn, 0, none⟩)] (fun x : Nat × Int => #[.int .i64 x.1, .int .i32 x.2]) (Kc n₀) (fun ys => ys = cuts s) (fun pre => pre <+: cuts s) (cuts s).length w :=
 fun l J Jx W hW hJ _ hY h0 => cut96 n hn l Bn n₀ s hs J Jx W hJ hY hBn (Nat.le_trans hn0 hW.size) ((hW.cell (p := ⟨Bn, 0, none⟩) (Nat.lt_of_lt_of_le hBn hn0)).trans hc) h0
theorem Kc.b {n₀ : Nat} {w : World} (hn : n₀ ≤ w.heap.size) (W : World) (l : Nat) (o o' : Obj) (hl : w.heap.size ≤ l) (h : W.heap[l]? = some o) (h1 : o.isCells = false) (h2 : o.isWalk = false) : Kc n₀ W (W.putObj l o') := ⟨belowK_b hn W l o o' hl h h1 h2, walksK_b (w := w) W l o o' hl h h1 h2⟩
/-- where the first rune lies that is none of a name -/
def stopAt (l : List (Nat × Int)) (n : Nat) : Nat := match l.find? (fun x => !nameB x.2) with
 | some x => x.1
 | none => n
theorem stop_none {l : List (Nat × Int)} {n : Nat} (h : ∀ y ∈ l, nameB y.2 = true) : stopAt l n = n := by
 unfold stopAt
 rw [List.find?_eq_none.2 (fun x hx => by simp [h x hx])]
theorem stop_at {l pre rest : List (Nat × Int)} {x : Nat × Int} {n : Nat} (hl : l = (pre ++ [x]) ++ rest) (h : ∀ y ∈ pre, nameB y.2 = true) (hx : nameB x.2 = false) : stopAt l n = x.1 := by
 subst hl
 unfold stopAt
 rw [List.append_assoc, List.find?_append, List.find?_eq_none.2 (fun y hy => by simp [h y hy])]
 simp [hx]
theorem cutsN_lt (s : ByteArray) : ∀ n i (x : Nat × Int), x ∈ cutsN s n i → x.1 < s.size
 | 0, _, _, h => by cases h
 | n + 1, i, x, h => by
  simp only [cutsN] at h
  split at h
  ·rcases List.mem_cons.1 h with rfl | h'
   ·assumption
   ·exact cutsN_lt s n _ x h'
  ·cases h
theorem cuts_lt (s : ByteArray) (x : Nat × Int) (h : x ∈ cuts s) : x.1 < s.size := cutsN_lt s _ _ x h
set_option maxHeartbeats 2000000 in
theorem row78 (s : ByteArray) (p : Nat) (w : World) (hs : s.size ≤ 1048576) (hp : p ≤ s.size) :
  Calls Tryz.prog 232 #[.string s, .int .i64 p, .func (.func 229) #[] #[]] w fun e w' => e = .returned (.int .i64 (p + stopAt (cuts (s.extract p s.size)) (s.size - p) : Nat)) ∧ Below w.heap.size w w' := by
 refine (callsIn_wide (n := 5)).1 ?_
 refine callsIn_of_wp_marks Tryz.func232 rfl trivial ?_ rfl
 simp only [Tryz.ntmps232, List.size_toArray, List.length_cons, List.length_nil, Nat.reduceAdd, Nat.reduceSub, Array.replicate_succ, Array.replicate_zero, List.push_toArray, List.append_toArray, List.nil_append, List.cons_append]
 gi_wp2_with (refine ⟨trivial, ?_⟩; gi_at_call 228; refine (callsIn_wide.2 (cutting74 _ _)).mono ?_; rintro e w' ⟨rfl, rfl⟩)
 obtain ⟨W0, hW0⟩ : ∃ W0, W0 = (((w.alloc (.cells #[.int .i64 p] 3)).alloc (.cells #[.func (.func 229) #[] #[]] 308)).alloc (.cells #[.int .i64 0] 3)).alloc (.cells #[.string (s.extract p s.size)] 9) := ⟨_, rfl⟩
 rw [← hW0]
 have hsz : W0.heap.size = w.heap.size + 4 := by rw [hW0]; simp
 have b4 : Boxed W0 w.heap.size 3 (.int .i64 p) := by rw [hW0]; exact (((Boxed.new w 3 _).alloc _).alloc _).alloc _
 have b5 : Boxed W0 (w.heap.size + 1) 308 (.func (.func 229) #[] #[]) := by
  rw [hW0]; have := ((Boxed.new (w.alloc (.cells #[.int .i64 p] 3)) 308 (.func (.func 229) #[] #[])).alloc (.cells #[.int .i64 0] 3)).alloc (.cells #[.string (s.extract p s.size)] 9); simpa using this
 have b6 : Boxed W0 (w.heap.size + 1 + 1) 3 (.int .i64 0) := by
  rw [hW0]; have := (Boxed.new ((w.alloc (.cells #[.int .i64 p] 3)).alloc (.cells #[.func (.func 229) #[] #[]] 308)) 3 (.int .i64 0)).alloc (.cells #[.string (s.extract p s.size)] 9); simpa using this
 have b7 : Boxed W0 (w.heap.size + 1 + 1 + 1) 9 (.string (s.extract p s.size)) := by
  rw [hW0]; have := Boxed.new (((w.alloc (.cells #[.int .i64 p] 3)).alloc (.cells #[.func (.func 229) #[] #[]] 308)).alloc (.cells #[.int .i64 0] 3)) 9 (.string (s.extract p s.size)); simpa using this
 have hB0 : Below w.heap.size w W0 := by rw [hW0]; exact ((((Below.refl _ w).alloc (Nat.le_refl _) _).alloc (by simp) _).alloc (by simp; omega) _).alloc (by simp; omega) _
 have hBox : ∀ W, Below W0.heap.size W0 W → Boxed W w.heap.size 3 (.int .i64 p) ∧ Boxed W (w.heap.size + 1) 308 (.func (.func 229) #[] #[]) ∧ Boxed W (w.heap.size + 1 + 1) 3 (.int .i64 0) := fun W h => ⟨(h.block _ (by omega)).trans b4, (h.block _ (by omega)).trans b5, (h.block _ (by omega)).trans b6⟩
 clear hW0
 refine wpIn_rangeFunc_ownF (w0 := W0) rfl (by omega) (gf := 253) (lb := #[.pointer (some ⟨w.heap.size + 1 + 1 + 1, 0, none⟩)]) rfl trivial (enters_of Tryz.func253 (by kernel_rfl) rfl)
  (cut_stops 4 (by omega) (w.heap.size + 1 + 1 + 1) W0.heap.size (s.extract p s.size) (by simp; omega) W0 (by omega) (Nat.le_refl _) b7.cell) Kc.t (Kc.b (Nat.le_refl _)) (Below.refl _ _) (fun _ => rfl)
  (fun pre W => (∀ y ∈ pre, nameB y.2 = true) ∧ Below W0.heap.size W0 W)
  (fun c pre W => ((∃ pre0 x, c = .ret ∧ pre = pre0 ++ [x] ∧ (∀ y ∈ pre0, nameB y.2 = true) ∧ nameB x.2 = false ∧ W.cell? ⟨w.heap.size + 1 + 1, 0, none⟩ = some (.int .i64 (wrap64 (p + x.1)))) ∧ Below w.heap.size w W))
  (OwnFrom.and (ownFrom_pure _ _) (ownFrom_below (Nat.le_refl _) (Nat.le_refl _)))
  (fun c => OwnFrom.and (Own.from (fun s A B row hs hg hr => by obtain ⟨q0, x, h1, h2, h3, h4, h5⟩ := hs; exact ⟨q0, x, h1, h2, h3, h4, cell_kept h5 hg hr⟩) _) (ownFrom_below (Nat.le_refl _) (by omega)))
  ⟨(fun y hy => by cases hy), Below.refl _ _⟩
  (fun x => { tmps := #[.string s, .int .i64 p, .func (.func 229) #[] #[], undef, .pointer (some ⟨w.heap.size, 0, none⟩), .pointer (some ⟨w.heap.size + 1, 0, none⟩), .pointer (some ⟨w.heap.size + 1 + 1, 0, none⟩), .int .i64 x.1, .int .i32 x.2, .string s, .int .i64 p, .string (s.extract p s.size), .func (.func 253) #[] #[.pointer (some ⟨w.heap.size + 1 + 1 + 1, 0, none⟩)], .int .i64 x.1, .int .i32 x.2, undef, undef, undef, undef, undef, undef, undef, undef, undef], defers := [] }) ?assign ?body ?done ?stop
 case assign =>
  intro l x W K hK
  gi_wp2
  exact hK
 case body =>
  rintro l pre x W ⟨hn, hB⟩ _
  obtain ⟨d4, d5, d6⟩ := hBox W hB
  have c4 := d4.cell
  have c5 := d5.cell
  have c6 := d6.cell
  have f6 := d6.frozen
  have hcall := named75 x.2 W
  cases hx : nameB x.2
  ·rw [hx] at hcall
   gi_wp2_with (refine ⟨trivial, ?_⟩; gi_at_call 229; refine (CallsIn.inRound l (callsIn_wide.2 hcall)).mono ?_; rintro e w' ⟨rfl, rfl⟩)
   exact ⟨KeepsOthers.setCell _ _ _, ⟨pre, x, rfl, rfl, hn, hx, World.cell?_setCell_same' _ _ _ (by rw [c6]; rfl)⟩, (hB0.trans (hB.mono (by omega))).setCell (by simp; omega) _⟩
  ·rw [hx] at hcall
   gi_wp2_with (refine ⟨trivial, ?_⟩; gi_at_call 229; refine (CallsIn.inRound l (callsIn_wide.2 hcall)).mono ?_; rintro e w' ⟨rfl, rfl⟩)
   refine ⟨KeepsOthers.refl _, ⟨Below.refl _ _, (KeepsOthers.refl _).walks⟩, fun y hy => ?_, hB⟩
   rcases List.mem_append.1 hy with h | h
   ·exact hn y h
   ·obtain rfl : y = x := by simpa using h
    exact hx
 case done =>
  rintro D ys W hD rfl ⟨hn, hB⟩ hK
  obtain ⟨d4, d5, d6⟩ := hBox W hB
  have c6 := d6.cell
  have f6 := d6.frozen
  gi_wp2
  have hK2 := (KeepsOthers.setCell W ⟨w.heap.size + 1 + 1, 0, none⟩ (.int .i64 s.size)).same D _ hK rfl
  have hc := cell_kept (World.cell?_setCell_same' W ⟨w.heap.size + 1 + 1, 0, none⟩ (.int .i64 s.size) (by rw [c6]; rfl)) (grownBy_putObj' _ D (.deferred none)) (fun r e => by cases e; exact ⟨_, hK2, rfl⟩)
  refine ⟨by simp, .inl ⟨_, _, rfl, run_takeDeferred hK2, ?_⟩⟩
  refine ⟨.int .i64 s.size, by simp [results, Tryz.results232, go_sem, hc], ?_, ?_⟩
  ·rw [stop_none hn]
   congr 2
   omega
  ·exact (((hB0.trans (hB.mono (by omega))).setCell (p := ⟨w.heap.size + 1 + 1, 0, none⟩) (by simp; omega) _)).trans (belowK_b (w := W0) (by omega) _ D _ _ hD hK2 rfl rfl)
 case stop =>
  rintro D c pre W hD hpre ⟨⟨pre0, x, rfl, rfl, h3, h4, h5⟩, hB⟩ hK
  gi_wp2
  obtain ⟨rest, hr⟩ := hpre
  have hx := stop_at (n := s.size - p) hr.symm h3 h4
  have hlt := cuts_lt (s.extract p s.size) x (by rw [← hr]; simp)
  have hw : wrap64 ((p : Int) + (x.1 : Int)) = ((p + x.1 : Nat) : Int) := by
   simp at hlt
   rw [show (p : Int) + (x.1 : Int) = ((p + x.1 : Nat) : Int) by omega]
   unfold wrap64
   omega
  rw [hw] at h5
  have hc := cell_kept h5 (grownBy_putObj' _ D (.deferred none)) (fun r e => by cases e; exact ⟨_, hK, rfl⟩)
  refine ⟨by simp, .inl ⟨_, _, rfl, run_takeDeferred hK, ?_⟩⟩
  refine ⟨.int .i64 ((p + x.1 : Nat) : Int), by simp [results, Tryz.results232, go_sem, hc], by rw [hx], ?_⟩
  exact hB.trans (belowK_b (w := W0) (by omega) _ D _ _ hD hK rfl rfl)
end
section
/-- the counter -/
def Cnt (pb : Nat) (m : Int) (w : World) : Prop := w.heap[pb]? = some (.cells #[.int .i64 m] 3 (0, 0))
theorem Cnt.cell {pb : Nat} {m : Int} {w : World} (h : Cnt pb m w) : w.cell? ⟨pb, 0, none⟩ = some (.int .i64 m) := cell_of_one h
theorem Cnt.free {pb : Nat} {m : Int} {w : World} (h : Cnt pb m w) : w.frozen? ⟨pb, 0, none⟩ = false := free_of_one h
theorem Cnt.lt {pb : Nat} {m : Int} {w : World} (h : Cnt pb m w) : pb < w.heap.size := lt_of_block h
theorem Cnt.set {pb : Nat} {m : Int} {w : World} (h : Cnt pb m w) (x : Int) : Cnt pb x (w.setCell ⟨pb, 0, none⟩ (.int .i64 x)) := one_setCell h
theorem Cnt.alloc {pb : Nat} {m : Int} {w : World} (h : Cnt pb m w) (o : Obj) : Cnt pb m (w.alloc o) := (Below.heap_alloc _ _ _ h.lt).trans h
theorem Cnt.drew {pb : Nat} {m : Int} {w : World} (h : Cnt pb m w) : Cnt pb m w.drew := h
/-- the tree's world w0, the counter above it -/
structure Few (w0 w : World) (pb : Nat) : Prop where
 below : Below w0.heap.size w0 w
 above : w0.heap.size ≤ pb
theorem Few.step {w0 w w' : World} {pb : Nat} (h : Few w0 w pb) (hg : w.grownBy w' (some pb)) : Few w0 w' pb :=
 ⟨h.below.grown hg h.below.size (fun k hk => by cases hk; exact h.above), h.above⟩
/-- the unit boxed, the counter behind it -/
structure FewB (w wr : World) (c : Array Value) (x : Int) : Prop where
 few : Few w wr (w.heap.size + 1)
 cnt : Cnt (w.heap.size + 1) x wr
 box : ∀ i, wr.cell? ⟨w.heap.size, i, none⟩ = c[i]?
theorem FewB.step {w wr w' : World} {c : Array Value} {x y : Int} (h : FewB w wr c x) (hg : wr.grownBy w' (some (w.heap.size + 1))) (hc : Cnt (w.heap.size + 1) y w') : FewB w w' c y where
 few := h.few.step hg
 cnt := hc
 box := fun i => by
  have hlt : w.heap.size < wr.heap.size := by have := h.cnt.lt; omega
  rw [← h.box i]
  exact World.cell?_of_block (hg.block _ hlt (by simp))
theorem FewB.start (w : World) (c : Array Value) (t : TypeId) (x : Int) : FewB w ((w.alloc (.cells c t)).alloc (.cells #[.int .i64 x] 3)) c x where
 few := ⟨below2 _ _ _, by omega⟩
 cnt := by
  have := heap_alloc_new (w.alloc (.cells c t)) (.cells #[.int .i64 x] 3)
  simpa [Cnt] using this
 box := (box_on (Below.refl _ _)).1
end
section
section
variable {w w' : World} {row : Option Nat} {Z Z' : Nat → Prop} {p : Bool}
theorem Zone.move {t : TypeId} {b off n len cap : Nat} (h : Zone w (some Z) t b off n len cap) (hg : w.grownBy w' row) (hr : ∀ b, Z b → some b ≠ row) (hz : ∀ b, Z b → Z' b) : Zone w' (some Z') t b off n len cap := fun Y hY => by
 cases hY
 obtain ⟨h1, h2, ⟨cs, h3⟩, h4, h5⟩ := h Z rfl
 exact ⟨hz _ h1, h2, ⟨cs, (hg.block b (lt_of_block h3) (hr _ h1)).trans h3⟩, h4, hg.cell h5 (hr _ h1)⟩
theorem HeadE.move {h : EH} {b q : Nat} (x : HeadE w p h b q) (hg : w.grownBy w' row) (hb : some b ≠ row) : HeadE w' p h b q := by
 obtain ⟨⟨t, y0, y0'⟩, y1, y2, y3, y4, y5⟩ := x
 exact ⟨⟨t, hg.cell y0 hb, y0'⟩, hg.cell y1 hb, hg.cell y2 hb, hg.cell y3 hb, hg.cell y4 hb, hg.cell y5 hb⟩
theorem HeadS.move {h : SH} {b q : Nat} (x : HeadS w p h b q) (hg : w.grownBy w' row) (hb : some b ≠ row) : HeadS w' p h b q := by
 obtain ⟨⟨t, y0, y0'⟩, y1, y2, y3, y4⟩ := x
 exact ⟨⟨t, hg.cell y0 hb, y0'⟩, hg.cell y1 hb, hg.cell y2 hb, hg.cell y3 hb, hg.cell y4 hb⟩
theorem ExsIn.move (hg : w.grownBy w' row) (hr : ∀ b, Z b → some b ≠ row) (hz : ∀ b, Z b → Z' b) : ∀ {l : Exs} {b off k : Nat}, ExsIn w p (some Z) l b off k → (l.len = 0 ∨ some b ≠ row) → ExsIn w' p (some Z') l b off k
 | .nil, _, _, _, _, _ => trivial
 | .cons h kids rest, b, off, k, ⟨x1, ⟨ka, kb, koff, kcap, y1, y2, y3⟩, x3⟩, hb =>
  have hb' : some b ≠ row := hb.resolve_left (by simp [Exs.len])
  ⟨x1.move hg hb', ⟨ka, kb, koff, kcap, hg.cell y1 hb', y2.imp (fun z => nomatch z.2) (fun z => ⟨z.1, z.2.move hg hr hz⟩), ExsIn.move hg hr hz y3 (y2.imp And.left (fun z => hr _ (z.2 Z rfl).1))⟩, ExsIn.move hg hr hz x3 (.inr hb')⟩
theorem SlE.move {l : Exs} {v : Value} (h : SlE w p (some Z) l v) (hg : w.grownBy w' row) (hr : ∀ b, Z b → some b ≠ row) (hz : ∀ b, Z b → Z' b) : SlE w' p (some Z') l v := by
 obtain ⟨ka, kb, koff, kcap, rfl, y2, y3⟩ := h
 exact ⟨ka, kb, koff, kcap, rfl, y2.imp (fun z => nomatch z.2) (fun z => ⟨z.1, z.2.move hg hr hz⟩), y3.move hg hr hz (y2.imp And.left (fun z => hr _ (z.2 Z rfl).1))⟩
theorem StsIn.move (hg : w.grownBy w' row) (hr : ∀ b, Z b → some b ≠ row) (hz : ∀ b, Z b → Z' b) : ∀ {l : Sts} {b off k : Nat}, StsIn w p (some Z) l b off k → (l.len = 0 ∨ some b ≠ row) → StsIn w' p (some Z') l b off k
 | .nil, _, _, _, _, _ => trivial
 | .cons h x body els rest, b, off, k, ⟨x1, ⟨v, x2, x3⟩, ⟨ka, kb, koff, kcap, y1, y2, y3⟩, ⟨ja, jb, joff, jcap, z1, z2, z3⟩, x4⟩, hb =>
  have hb' : some b ≠ row := hb.resolve_left (by simp [Sts.len])
  ⟨x1.move hg hb', ⟨v, hg.cell x2 hb', x3.move hg hr hz⟩, ⟨ka, kb, koff, kcap, hg.cell y1 hb', y2.imp (fun z => nomatch z.2) (fun z => ⟨z.1, z.2.move hg hr hz⟩), StsIn.move hg hr hz y3 (y2.imp And.left (fun z => hr _ (z.2 Z rfl).1))⟩, ⟨ja, jb, joff, jcap, hg.cell z1 hb', z2.imp (fun z => nomatch z.2) (fun z => ⟨z.1, z.2.move hg hr hz⟩), StsIn.move hg hr hz z3 (z2.imp And.left (fun z => hr _ (z.2 Z rfl).1))⟩, StsIn.move hg hr hz x4 (.inr hb')⟩
theorem SlS.move {l : Sts} {v : Value} (h : SlS w p (some Z) l v) (hg : w.grownBy w' row) (hr : ∀ b, Z b → some b ≠ row) (hz : ∀ b, Z b → Z' b) : SlS w' p (some Z') l v := by
 obtain ⟨ka, kb, koff, kcap, rfl, y2, y3⟩ := h
 exact ⟨ka, kb, koff, kcap, rfl, y2.imp (fun z => nomatch z.2) (fun z => ⟨z.1, z.2.move hg hr hz⟩), y3.move hg hr hz (y2.imp And.left (fun z => hr _ (z.2 Z rfl).1))⟩
theorem SlR.move {α : Type} {t : TypeId} {n : Nat} {R R' : α → Nat → Nat → Prop} {l : List α} {v : Value} (h : SlR w (some Z) t n R l v) (hg : w.grownBy w' row) (hr : ∀ b, Z b → some b ≠ row) (hz : ∀ b, Z b → Z' b) (hR : ∀ a b q, some b ≠ row → R a b q → R' a b q) : SlR w' (some Z') t n R' l v := by
 obtain ⟨ka, kb, koff, kcap, rfl, y2, y3⟩ := h
 refine ⟨ka, kb, koff, kcap, rfl, y2.imp (fun z => nomatch z.2) (fun z => ⟨z.1, z.2.move hg hr hz⟩), fun i hi => ?_⟩
 rcases y2 with h0 | ⟨_, hZ⟩
 ·exact nomatch h0.2
 ·exact hR _ _ _ (hr _ (hZ Z rfl).1) (y3 i hi)
theorem ParR.move {a : PW} {b q : Nat} (h : ParR w a b q) (hg : w.grownBy w' row) (hb : some b ≠ row) : ParR w' a b q := ⟨hg.cell h.c0 hb, hg.cell h.c1 hb⟩
theorem SlPz.move {l : List PW} {v : Value} (h : SlPz w (some Z) l v) (hg : w.grownBy w' row) (hr : ∀ b, Z b → some b ≠ row) (hz : ∀ b, Z b → Z' b) : SlPz w' (some Z') l v := SlR.move h hg hr hz (fun _ _ _ hb h => h.move hg hb)
end
/-! ### lists of a tree -/
def Exs.toL : Exs → List (EH × Exs)
 | .nil => []
 | .cons h k r => (h, k) :: r.toL
theorem Exs.toL_len : ∀ l : Exs, l.toL.length = l.len
 | .nil => rfl
 | .cons h k r => by simp [Exs.toL, Exs.len, Exs.toL_len r]
theorem Exs.toL_sz : ∀ (l : Exs) (a : EH × Exs), a ∈ l.toL → a.2.sz < l.sz
 | .nil, _, h => by cases h
 | .cons h k r, a, hm => by
  rcases List.mem_cons.1 hm with rfl | h'
  ·simp only [Exs.sz]; omega
  ·have := Exs.toL_sz r a h'; simp only [Exs.sz]; omega
structure ExpR (w : World) (p : Bool) (o : Option (Nat → Prop)) (a : EH × Exs) (b q : Nat) : Prop where
 head : HeadE w p a.1 b q
 kids : ∃ v, w.cell? ⟨b, q + 6, none⟩ = some v ∧ SlE w p o a.2 v
theorem ExsIn_at {w : World} {p : Bool} {o : Option (Nat → Prop)} {b off : Nat} : ∀ {l : Exs} {k : Nat}, ExsIn w p o l b off k → ∀ i (h : i < l.toL.length), ExpR w p o l.toL[i] b (off + (k + i) * 7)
 | .nil, k, _, i, h => by simp [Exs.toL] at h
 | .cons h kids rest, k, x, i, hi => by
  obtain ⟨x1, x2, x3⟩ := x.cons
  cases i with
  | zero => exact ⟨x1, x2⟩
  | succ i =>
   have := ExsIn_at x3 i (by simpa [Exs.toL] using hi)
   rw [show k + 1 + i = k + (i + 1) by omega] at this
   exact this
theorem ExsIn_of {w : World} {p : Bool} {o : Option (Nat → Prop)} {b off : Nat} : ∀ {l : Exs} {k : Nat}, (∀ i (h : i < l.toL.length), ExpR w p o l.toL[i] b (off + (k + i) * 7)) → ExsIn w p o l b off k
 | .nil, k, _ => trivial
 | .cons h kids rest, k, x => by
  have x0 := x 0 (by simp [Exs.toL])
  obtain ⟨v, x1, x2⟩ := x0.kids
  refine ExsIn.mk x0.head x1 x2 (ExsIn_of fun i hi => ?_)
  have := x (i + 1) (by simpa [Exs.toL] using hi)
  rw [show k + (i + 1) = k + 1 + i by omega] at this
  exact this
theorem SlE_iff {w : World} {p : Bool} {o : Option (Nat → Prop)} {l : Exs} {v : Value} : SlE w p o l v ↔ SlR w o 134 7 (ExpR w p o) l.toL v := by
 constructor
 ·rintro ⟨ka, kb, koff, kcap, rfl, y2, y3⟩
  refine ⟨ka, kb, koff, kcap, by rw [Exs.toL_len], by rw [Exs.toL_len]; exact y2, fun i hi => ?_⟩
  have := ExsIn_at y3 i hi
  rwa [Nat.zero_add] at this
 ·rintro ⟨ka, kb, koff, kcap, rfl, y2, y3⟩
  rw [Exs.toL_len] at y2 ⊢
  exact ⟨ka, kb, koff, kcap, rfl, y2, ExsIn_of fun i hi => by rw [Nat.zero_add]; exact y3 i hi⟩
/-- a statement with its lists -/
abbrev SB := SH × Exs × Sts × Sts
def Sts.toL : Sts → List SB
 | .nil => []
 | .cons h x b e r => (h, x, b, e) :: r.toL
theorem Sts.toL_len : ∀ l : Sts, l.toL.length = l.len
 | .nil => rfl
 | .cons h x b e r => by simp [Sts.toL, Sts.len, Sts.toL_len r]
theorem Sts.toL_sz : ∀ (l : Sts) (a : SB), a ∈ l.toL → a.2.1.sz + a.2.2.1.sz + a.2.2.2.sz < l.sz
 | .nil, _, h => by cases h
 | .cons h x b e r, a, hm => by
  rcases List.mem_cons.1 hm with rfl | h'
  ·simp only [Sts.sz]; omega
  ·have := Sts.toL_sz r a h'; simp only [Sts.sz]; omega
structure StmR (w : World) (p : Bool) (o : Option (Nat → Prop)) (a : SB) (b q : Nat) : Prop where
 head : HeadS w p a.1 b q
 exprs : ∃ v, w.cell? ⟨b, q + 5, none⟩ = some v ∧ SlE w p o a.2.1 v
 body : ∃ v, w.cell? ⟨b, q + 6, none⟩ = some v ∧ SlS w p o a.2.2.1 v
 els : ∃ v, w.cell? ⟨b, q + 7, none⟩ = some v ∧ SlS w p o a.2.2.2 v
theorem StsIn_at {w : World} {p : Bool} {o : Option (Nat → Prop)} {b off : Nat} : ∀ {l : Sts} {k : Nat}, StsIn w p o l b off k → ∀ i (h : i < l.toL.length), StmR w p o l.toL[i] b (off + (k + i) * 8)
 | .nil, k, _, i, h => by simp [Sts.toL] at h
 | .cons h ex body els rest, k, x, i, hi => by
  obtain ⟨x1, x2, x3, x4, x5⟩ := x.cons
  cases i with
  | zero => exact ⟨x1, x2, x3, x4⟩
  | succ i =>
   have := StsIn_at x5 i (by simpa [Sts.toL] using hi)
   rw [show k + 1 + i = k + (i + 1) by omega] at this
   exact this
theorem StsIn_of {w : World} {p : Bool} {o : Option (Nat → Prop)} {b off : Nat} : ∀ {l : Sts} {k : Nat}, (∀ i (h : i < l.toL.length), StmR w p o l.toL[i] b (off + (k + i) * 8)) → StsIn w p o l b off k
 | .nil, k, _ => trivial
 | .cons h ex body els rest, k, x => by
  have x0 := x 0 (by simp [Sts.toL])
  obtain ⟨v, x1, x2⟩ := x0.exprs
  obtain ⟨vb, x3, x4⟩ := x0.body
  obtain ⟨ve, x5, x6⟩ := x0.els
  refine StsIn.mk x0.head x1 x2 x3 x4 x5 x6 (StsIn_of fun i hi => ?_)
  have := x (i + 1) (by simpa [Sts.toL] using hi)
  rw [show k + (i + 1) = k + 1 + i by omega] at this
  exact this
theorem SlS_iff {w : World} {p : Bool} {o : Option (Nat → Prop)} {l : Sts} {v : Value} : SlS w p o l v ↔ SlR w o 109 8 (StmR w p o) l.toL v := by
 constructor
 ·rintro ⟨ka, kb, koff, kcap, rfl, y2, y3⟩
  refine ⟨ka, kb, koff, kcap, by rw [Sts.toL_len], by rw [Sts.toL_len]; exact y2, fun i hi => ?_⟩
  have := StsIn_at y3 i hi
  rwa [Nat.zero_add] at this
 ·rintro ⟨ka, kb, koff, kcap, rfl, y2, y3⟩
  rw [Sts.toL_len] at y2 ⊢
  exact ⟨ka, kb, koff, kcap, rfl, y2, StsIn_of fun i hi => by rw [Nat.zero_add]; exact y3 i hi⟩
/-! ### a list of records that is being built -/
def Bld {α : Type} (w : World) (B : Nat) (e : TypeId) (n : Nat) (R : α → List Value → Prop) (l : List α) (v : Value) : Prop :=
 ∃ cs : List (List Value), cs.length = l.length ∧ (∀ i (h : i < l.length) (h' : i < cs.length), cs[i].length = n ∧ R l[i] cs[i]) ∧ w.ownsRow B e n v l.length cs.flatten
theorem flatten_len {n : Nat} : ∀ {cs : List (List Value)}, (∀ i (h : i < cs.length), cs[i].length = n) → cs.flatten.length = cs.length * n
 | [], _ => by simp
 | c :: cs, h => by
  have h0 := h 0 (by simp)
  have := flatten_len (cs := cs) (fun i hi => h (i + 1) (by simpa using hi))
  simp only [List.getElem_cons_zero] at h0
  simp only [List.flatten_cons, List.length_append, List.length_cons, this, h0, Nat.add_mul]
  omega
theorem flatten_at {n : Nat} : ∀ {cs : List (List Value)}, (∀ i (h : i < cs.length), cs[i].length = n) → ∀ i (h : i < cs.length) j, j < n → cs.flatten[i * n + j]? = cs[i][j]?
 | [], _, i, h, _, _ => by simp at h
 | c :: cs, h, i, hi, j, hj => by
  have h0 := h 0 (by simp)
  simp only [List.getElem_cons_zero] at h0
  cases i with
  | zero => simp only [List.flatten_cons, List.getElem_cons_zero]; rw [List.getElem?_append_left (by omega)]; simp
  | succ i =>
   have := flatten_at (cs := cs) (fun i hi => h (i + 1) (by simpa using hi)) i (by simpa using hi) j hj
   simp only [List.flatten_cons, List.getElem_cons_succ]
   rw [List.getElem?_append_right (by rw [h0, Nat.add_mul]; omega), h0, show (i + 1) * n + j - n = i * n + j by rw [Nat.add_mul]; omega]
   exact this
theorem Bld.nil {α : Type} (w : World) (B : Nat) (e : TypeId) (n : Nat) (R : α → List Value → Prop) : Bld w B e n R [] (.slice none 0 0) := ⟨[], rfl, fun i h => by simp at h, World.ownsRow_nil w B e n⟩
theorem Bld.push {α : Type} {w' : World} {B : Nat} {e : TypeId} {n : Nat} {R R' : α → List Value → Prop} {l : List α} {v' : Value} {cs : List (List Value)} {c : List Value} {a : α} (h1 : cs.length = l.length) (h2 : ∀ i (h : i < l.length) (h' : i < cs.length), cs[i].length = n ∧ R l[i] cs[i])
  (hA : w'.ownsRow B e n v' (l.length + 1) (cs.flatten ++ c)) (hc : c.length = n) (hR : ∀ a c, R a c → R' a c) (ha : R' a c) : Bld w' B e n R' (l ++ [a]) v' := by
 refine ⟨cs ++ [c], by simp [h1], fun i h h' => ?_, by simpa using hA⟩
 by_cases hi : i < l.length
 ·rw [List.getElem_append_left hi, List.getElem_append_left (by omega)]
  exact ⟨(h2 i hi (by omega)).1, hR _ _ (h2 i hi (by omega)).2⟩
 ·have : i = l.length := by simp at h; omega
  subst this
  rw [List.getElem_append_right (by omega), List.getElem_append_right (by omega)]
  simp only [h1, Nat.sub_self, List.getElem_cons_zero]
  exact ⟨hc, ha⟩
theorem Bld.on {α : Type} {w w' : World} {B : Nat} {e : TypeId} {n : Nat} {R R' : α → List Value → Prop} {l : List α} {v : Value} (h : Bld w B e n R l v) {row : Option Nat} (hg : w.grownBy w' row) (hne : v.ownBlock = none ∨ v.ownBlock ≠ row) (hR : ∀ a c, R a c → R' a c) : Bld w' B e n R' l v := by
 obtain ⟨cs, h1, h2, h3⟩ := h
 exact ⟨cs, h1, fun i h h' => ⟨(h2 i h h').1, hR _ _ (h2 i h h').2⟩, h3.kept hg hne⟩
theorem Bld.alloc {α : Type} {w : World} {B : Nat} {e : TypeId} {n : Nat} {R : α → List Value → Prop} {l : List α} {v : Value} (h : Bld w B e n R l v) (o : Obj) : Bld (w.alloc o) B e n R l v :=
 h.on (World.grownBy_alloc w o none) (by cases v.ownBlock <;> simp) (fun _ _ h => h)
theorem Bld.lt {α : Type} {w : World} {B : Nat} {e : TypeId} {n : Nat} {R : α → List Value → Prop} {l : List α} {v : Value} (h : Bld w B e n R l v) : ∀ k, v.ownBlock = some k → B ≤ k ∧ k < w.heap.size := by
 obtain ⟨cs, h1, h2, h3⟩ := h
 exact h3.lt
theorem Bld.done {α : Type} {w : World} {B : Nat} {e : TypeId} {n : Nat} {R : α → List Value → Prop} {Rel : α → Nat → Nat → Prop} {l : List α} {g m cap : Nat} {cs : List (List Value)} {mark : List Value} {Z : Nat → Prop} (h1 : cs.length = l.length) (h2 : ∀ i (h : i < l.length) (h' : i < cs.length), cs[i].length = n ∧ R l[i] cs[i])
  (h3 : w.ownsRow B e n (.slice (some ⟨g, 0, none⟩) m cap) m (cs.flatten ++ mark)) (hm : l.length < m) (hn : 0 < n) (hmk : mark[0]? = some (markV e)) (hZ : Z g) (hR : ∀ a c q, R a c → (∀ j, j < n → w.cell? ⟨g, q + j, none⟩ = c[j]?) → Rel a g q) : SlR w (some Z) e n Rel l (.slice (some ⟨g, 0, none⟩) l.length cap) := by
 refine ⟨some ⟨g, 0, none⟩, g, 0, cap, rfl, .inr ⟨rfl, fun Y hY => ?_⟩, fun i hi => ?_⟩
 ·cases hY
  have hfl : cs.flatten.length = l.length * n := by rw [flatten_len (fun i h => (h2 i (by omega) h).1), h1]
  have hlm : l.length * n < m * n := Nat.mul_lt_mul_of_pos_right hm hn
  have hcell : w.cell? ⟨g, l.length * n, none⟩ = some (markV e) := by
   rw [h3.cellAt _ hlm, List.getElem?_append_right (by omega), hfl, Nat.sub_self]
   exact hmk
  rcases h3.2 with ⟨h, _⟩ | ⟨g', cap', cur, hv, hb, hg, hcap, _⟩
  ·cases h
  ·cases hv
   exact ⟨hZ, rfl, ⟨cur, hg⟩, by omega, hcell⟩
 ·have hi' : i < cs.length := by omega
  have hl : ∀ i (h : i < cs.length), cs[i].length = n := fun i h => (h2 i (by omega) h).1
  refine hR _ _ _ (h2 i hi hi').2 (fun j hj => ?_)
  have hlt : i * n + j < cs.flatten.length := by
   rw [flatten_len hl]
   calc i * n + j < i * n + n := by omega
    _ = (i + 1) * n := by rw [Nat.add_mul]; omega
    _ ≤ cs.length * n := Nat.mul_le_mul_right _ (by omega)
  have hlt2 : i * n + j < m * n := by
   rw [flatten_len hl, h1] at hlt
   exact Nat.lt_of_lt_of_le hlt (Nat.mul_le_mul_right _ (Nat.le_of_lt hm))
  rw [Nat.zero_add, h3.cellAt (i * n + j) hlt2, List.getElem?_append_left hlt]
  exact flatten_at hl i hi' j hj
end
section
/-- the cells of an expression -/
def ExpC (w : World) (Z : Nat → Prop) (a : EH × Exs) (c : List Value) : Prop :=
 ∃ v, c = [.int .i64 a.1.at_, .int .u8 a.1.kind, .int .u32 a.1.word, .int .u8 a.1.type, .string a.1.name, .string a.1.sign, v] ∧ SlE w true (some Z) a.2 v
/-- from B on, below the heap's end, not the list's own block -/
def ZB (B N : Nat) (v : Value) : Nat → Prop := fun b => B ≤ b ∧ b < N ∧ some b ≠ v.ownBlock
theorem grown_weak {w w' : World} {row : Option Nat} (h : w.grownBy w' none) : w.grownBy w' row := ⟨h.os, h.tape, h.output, h.size, fun k hk _ => h.block k hk (by simp)⟩
/-- a round: something is made, then appended -/
structure StepOk (B : Nat) (wr w2 w3 : World) (x v' : Value) : Prop where
 grown : wr.grownBy w3 x.ownBlock
 grown2 : w2.grownBy w3 x.ownBlock
 oldz : ∀ b, ZB B wr.heap.size x b → ZB B w3.heap.size v' b
 new : ∀ b, (wr.heap.size ≤ b ∧ b < w2.heap.size) → some b ≠ x.ownBlock
 newz : ∀ b, (wr.heap.size ≤ b ∧ b < w2.heap.size) → ZB B w3.heap.size v' b
theorem mkStep {B base : Nat} {wr w2 w3 : World} {e : TypeId} {size n m : Nat} {x v' : Value} {xs news : List Value} (hg : wr.grownBy w2 none) (hA : Appended w2 w3 base e size x v' n m xs news) (hlt : ∀ k, x.ownBlock = some k → k < wr.heap.size) (hB : B ≤ wr.heap.size) : StepOk B wr w2 w3 x v' := by
 have h1 := hg.size
 have h2 := hA.grown.size
 have hne : ∀ b, b < w2.heap.size → some b ≠ x.ownBlock → some b ≠ v'.ownBlock := by
  intro b hb hx
  rcases hA.place with hp | ⟨g, hp, hg, _⟩
  ·rw [hp]; exact hx
  ·rw [hp]; intro h; cases h; omega
 have hnew : ∀ b, (wr.heap.size ≤ b ∧ b < w2.heap.size) → some b ≠ x.ownBlock := fun b hb h => by have := hlt b h.symm; omega
 refine ⟨grown_trans (grown_weak hg) hA.grown, hA.grown, fun b hb => ⟨hb.1, ?_, hne b ?_ hb.2.2⟩, hnew, fun b hb => ⟨?_, ?_, hne b hb.2 (hnew b hb)⟩⟩
 ·have := hb.2.1; omega
 ·have := hb.2.1; omega
 ·omega
 ·omega
theorem ExpC.step {B : Nat} {wr w2 w3 : World} {x v' : Value} (h : StepOk B wr w2 w3 x v') {a : EH × Exs} {c : List Value} (hc : ExpC wr (ZB B wr.heap.size x) a c) : ExpC w3 (ZB B w3.heap.size v') a c := by
 obtain ⟨v, hv, ht⟩ := hc
 exact ⟨v, hv, ht.move h.grown (fun b hb => hb.2.2) h.oldz⟩
theorem ExpR.of {w : World} {Z : Nat → Prop} {a : EH × Exs} {c : List Value} {g q : Nat} (h : ExpC w Z a c) (hc : ∀ j, j < 7 → w.cell? ⟨g, q + j, none⟩ = c[j]?) : ExpR w true (some Z) a g q := by
 obtain ⟨v, rfl, ht⟩ := h
 exact ⟨⟨⟨_, hc 0 (by omega), fun _ => rfl⟩, hc 1 (by omega), hc 2 (by omega), hc 3 (by omega), hc 4 (by omega), hc 5 (by omega)⟩, ⟨v, hc 6 (by omega), ht⟩⟩
theorem ExpC.weak {w : World} {Z Z' : Nat → Prop} {a : EH × Exs} {c : List Value} (h : ExpC w Z a c) (hz : ∀ b, Z b → Z' b) : ExpC w Z' a c := by
 obtain ⟨v, hv, ht⟩ := h
 exact ⟨v, hv, ht.move (grown_refl w none) (fun _ _ => by simp) hz⟩
theorem grown_put {w w' : World} {pb off : Nat} (h : w.grownBy w' (some pb)) (x : Value) : w.grownBy (w'.setCell ⟨pb, off, none⟩ x) (some pb) :=
 grown_trans h ⟨rfl, rfl, rfl, by simp [World.setCell], fun k _ hk => Below.heap_setCell _ _ _ _ (fun e => hk (by rw [e]))⟩
theorem grown_of_below {w w' : World} (h : Below w.heap.size w w') : w.grownBy w' none := ⟨h.os, h.tape, h.output, h.size, fun k hk _ => h.block k hk⟩
end
section
/-- a block of cells -/
def Bx (w : World) (q : Nat) (cs : Array Value) (t : TypeId) : Prop := w.heap[q]? = some (.cells cs t (0, 0))
theorem Bx.cell {w : World} {q : Nat} {cs : Array Value} {t : TypeId} (h : Bx w q cs t) (i : Nat) : w.cell? ⟨q, i, none⟩ = cs[i]? := by
 unfold Bx at h
 simp [World.cell?, h]
theorem Bx.free {w : World} {q : Nat} {cs : Array Value} {t : TypeId} (h : Bx w q cs t) (i : Nat) : w.frozen? ⟨q, i, none⟩ = false := by
 unfold Bx at h
 simp [World.frozen?, h]
theorem Bx.lt {w : World} {q : Nat} {cs : Array Value} {t : TypeId} (h : Bx w q cs t) : q < w.heap.size := lt_of_block h
theorem Bx.new (w : World) (cs : Array Value) (t : TypeId) : Bx (w.alloc (.cells cs t)) w.heap.size cs t := heap_alloc_new w _
theorem Bx.on {w w' : World} {q : Nat} {cs : Array Value} {t : TypeId} (h : Bx w q cs t) {row : Option Nat} (hg : w.grownBy w' row) (hn : some q ≠ row) : Bx w' q cs t := (hg.block q h.lt hn).trans h
theorem Bx.set {w : World} {q : Nat} {cs : Array Value} {t : TypeId} (h : Bx w q cs t) (i : Nat) (v : Value) : Bx (w.setCell ⟨q, i, none⟩ v) q (cs.set! i v) t := by
 have hlt := h.lt
 have h' : w.heap[q] = .cells cs t (0, 0) := by have := h; unfold Bx at this; simpa [Array.getElem?_eq_getElem hlt] using this
 show (w.heap.modify q _)[q]? = _
 rw [Array.getElem?_eq_getElem (by simpa using hlt), Array.getElem_modify_self, h']
 rfl
/-- the cells of a statement -/
def StmC (w : World) (Z : Nat → Prop) (a : SB) (c : List Value) : Prop :=
 ∃ v5 v6 v7, c = [.int .i64 a.1.at_, .int .u8 a.1.kind, .string a.1.name, .int .u8 a.1.type, .string a.1.sign, v5, v6, v7] ∧ SlE w true (some Z) a.2.1 v5 ∧ SlS w true (some Z) a.2.2.1 v6 ∧ SlS w true (some Z) a.2.2.2 v7
theorem StmC.step {B : Nat} {wr w2 w3 : World} {x v' : Value} (h : StepOk B wr w2 w3 x v') {a : SB} {c : List Value} (hc : StmC wr (ZB B wr.heap.size x) a c) : StmC w3 (ZB B w3.heap.size v') a c := by
 obtain ⟨v5, v6, v7, hv, h5, h6, h7⟩ := hc
 exact ⟨v5, v6, v7, hv, h5.move h.grown (fun b hb => hb.2.2) h.oldz, h6.move h.grown (fun b hb => hb.2.2) h.oldz, h7.move h.grown (fun b hb => hb.2.2) h.oldz⟩
theorem StmC.weak {w : World} {Z Z' : Nat → Prop} {a : SB} {c : List Value} (h : StmC w Z a c) (hz : ∀ b, Z b → Z' b) : StmC w Z' a c := by
 obtain ⟨v5, v6, v7, hv, h5, h6, h7⟩ := h
 exact ⟨v5, v6, v7, hv, h5.move (grown_refl w none) (fun _ _ => by simp) hz, h6.move (grown_refl w none) (fun _ _ => by simp) hz, h7.move (grown_refl w none) (fun _ _ => by simp) hz⟩
theorem StmR.of {w : World} {Z : Nat → Prop} {a : SB} {c : List Value} {g q : Nat} (h : StmC w Z a c) (hc : ∀ j, j < 8 → w.cell? ⟨g, q + j, none⟩ = c[j]?) : StmR w true (some Z) a g q := by
 obtain ⟨v5, v6, v7, rfl, h5, h6, h7⟩ := h
 exact ⟨⟨⟨_, hc 0 (by omega), fun _ => rfl⟩, hc 1 (by omega), hc 2 (by omega), hc 3 (by omega), hc 4 (by omega)⟩, ⟨v5, hc 5 (by omega), h5⟩, ⟨v6, hc 6 (by omega), h6⟩, ⟨v7, hc 7 (by omega), h7⟩⟩
abbrev SW (w : World) (a0 a1 : Int) (a2 : ByteArray) (a3 : Int) (a4 : ByteArray) (v5 v6 v7 : Value) : World := w.alloc (.cells #[.int .i64 a0, .int .u8 a1, .string a2, .int .u8 a3, .string a4, v5, v6, v7] 109)
end
end Go.Proofs.YtlabadkfkbenoaaGreatDoor
