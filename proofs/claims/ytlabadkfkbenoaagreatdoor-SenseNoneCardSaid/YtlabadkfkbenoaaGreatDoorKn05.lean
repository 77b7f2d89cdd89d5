/- Walks and plain laws, merged: TokD TokE TokF TokG TokH TokK RefA RefB RefC. No condition. -/
import Derived.Test.YtlabadkfkbenoaaGreatDoorProg
import Derived.Test.YtlabadkfkbenoaaGreatDoorKn03
import Derived.Test.YtlabadkfkbenoaaGreatDoorKn04
import Derived.Test.YtlabadkfkbenoaaGreatDoorKn01
import Derived.Lib.Bytealg
import Derived.WalkMore
namespace Go.Proofs.YtlabadkfkbenoaaGreatDoor
open Go.RowKit
set_option linter.unusedVariables false
set_option linter.unusedSimpArgs false
set_option maxRecDepth 100000
section
open Go.Shelf
attribute [local go_sem] Oper.semAt_some
/-- bytes that a call has made -/
def Row5 (base n : Nat) (v : Value) (w : World) : Prop := ∃ xs, w.ownsRow base 5 1 v n xs
def App (base n : Nat) (v : Value) (w : World) (e : Ending) (w' : World) : Prop := ∃ v' m, e = .returned v' ∧ Row5 base m v' w' ∧ m ≤ n + 4 ∧ Below base w w' ∧ w.grownBy w' v.ownBlock
theorem app_of {base n m : Nat} {w w' : World} {v v' : Value} {xs news : List Value} (hA : Appended w w' base 5 1 v v' n m xs news) (h : w.ownsRow base 5 1 v n xs) (hB : base ≤ w.heap.size) (hm : m ≤ 4) : App base n v w (.returned v') w' :=
 ⟨v', n + m, rfl, ⟨_, hA.own⟩, by omega, (Below.refl base w).grown hA.grown hB (fun k hk => (h.lt k hk).1), hA.grown⟩
set_option maxHeartbeats 2000000 in
theorem append116 (base n : Nat) (v : Value) (r : Int) (w : World) (hv : Row5 base n v w) (hn : n ≤ 100000000) (hB : base ≤ w.heap.size) : Calls Tryz.prog 299 #[v, .int .i32 r] w (App base n v w) := by
 obtain ⟨xs, ho⟩ := hv
 have hO := hid ho
 have hlt : n ≤ 100000000 := hn
 clear ho hn
 go_enter Tryz.func299, Tryz.ntmps299
 go_wp2_with (first
  | (at_builtin; refine wpList_append_str rfl _ _ 295 rfl base 5 5 (.int .u8 0) 1 1 2 Tryz.underlying295 (by kernel_rfl) rfl (by decide) _ n _ [_, _] (0, 0) hO.out rfl (by simp [Value.oneCell']) (by unfold maxLen; omega) (by omega) hB rfl rfl ?_; intro v' w' hA; have hA' := hid hA; clear hA)
  | (at_builtin; refine wpList_append_str rfl _ _ 295 rfl base 5 5 (.int .u8 0) 1 1 3 Tryz.underlying295 (by kernel_rfl) rfl (by decide) _ n _ [_, _, _] (0, 0) hO.out rfl (by simp [Value.oneCell']) (by unfold maxLen; omega) (by omega) hB rfl rfl ?_; intro v' w' hA; have hA' := hid hA; clear hA)
  | (at_builtin; refine wpList_append_str rfl _ _ 295 rfl base 5 5 (.int .u8 0) 1 1 4 Tryz.underlying295 (by kernel_rfl) rfl (by decide) _ n _ [_, _, _, _] (0, 0) hO.out rfl (by simp [Value.oneCell']) (by unfold maxLen; omega) (by omega) hB rfl rfl ?_; intro v' w' hA; have hA' := hid hA; clear hA))
 all_goals
  go_ret
  exact app_of hA'.out hO.out hB (by omega)
set_option maxHeartbeats 2000000 in
theorem append109 (base n : Nat) (v : Value) (r : Int) (w : World) (hv : Row5 base n v w) (hn : n ≤ 100000000) (hB : base ≤ w.heap.size) : Calls Tryz.prog 279 #[v, .int .i32 r] w (App base n v w) := by
 have hcall := hid (append116 base n v r w hv hn hB)
 obtain ⟨xs, ho⟩ := hv
 have hO := hid ho
 have hlt : n ≤ 100000000 := hn
 clear ho hn
 go_enter Tryz.func279, Tryz.ntmps279
 go_wp2_with (at_builtin; refine wpList_append_str rfl _ _ 295 rfl base 5 5 (.int .u8 0) 1 1 1 Tryz.underlying295 (by kernel_rfl) rfl (by decide) _ n _ [_] (0, 0) hO.out rfl (by simp [Value.oneCell']) (by unfold maxLen; omega) (by omega) hB rfl rfl ?_; intro v' w' hA; have hA' := hid hA; clear hA)
 ·go_ret
  exact app_of hA'.out hO.out hB (by omega)
 ·refine hcall.out.mono ?_
  rintro e w2 ⟨v', m, rfl, h1, h2, h3⟩
  have H := hid (And.intro h1 (And.intro h2 h3))
  clear h1 h2 h3 hcall hO
  go_wp2_with fail
  go_ret
  exact ⟨_, _, rfl, H.out.1, H.out.2.1, H.out.2.2.1, H.out.2.2.2⟩
def Say (s : ByteArray) (w : World) (e : Ending) (w' : World) : Prop :=
 (∃ (c : Int) (b : Bool) (sz er : Int), e = .returned (.tuple #[.agg #[.int .i32 c, .bool b, .int .i64 sz], .int .i64 er]) ∧ (er = 0 → 1 ≤ sz ∧ sz ≤ 6)) ∧ Below w.heap.size w w'
/-- the two results of 'say' -/
structure Sy (w W : World) (c : Int) (b : Bool) (sz er : Int) : Prop where
 t : Bx W w.heap.size #[.int .i32 c, .bool b, .int .i64 sz] 337
 e : Bx W (w.heap.size + 1) #[.int .i64 er] 32
theorem Sy.cells {w W : World} {c : Int} {b : Bool} {sz er : Int} (h : Sy w W c b sz er) : (W.cell? ⟨w.heap.size, 0, none⟩ = some (.int .i32 c) ∧ W.cell? ⟨w.heap.size, 1, none⟩ = some (.bool b) ∧ W.cell? ⟨w.heap.size, 2, none⟩ = some (.int .i64 sz)) ∧ W.cell? ⟨w.heap.size + 1, 0, none⟩ = some (.int .i64 er) ∧ (∀ i, W.frozen? ⟨w.heap.size, i, none⟩ = false) ∧ W.frozen? ⟨w.heap.size + 1, 0, none⟩ = false :=
 ⟨⟨h.t.cell 0, h.t.cell 1, h.t.cell 2⟩, h.e.cell 0, h.t.free, h.e.free 0⟩
theorem Sy.on {w W W' : World} {c : Int} {b : Bool} {sz er : Int} (h : Sy w W c b sz er) {row : Option Nat} (hg : W.grownBy W' row) (h1 : some w.heap.size ≠ row) (h2 : some (w.heap.size + 1) ≠ row) : Sy w W' c b sz er := ⟨h.t.on hg h1, h.e.on hg h2⟩
theorem Sy.start (w : World) (er : Int := 0) : Sy w ((w.alloc (.cells #[.int .i32 0, .bool false, .int .i64 0] 337)).alloc (.cells #[.int .i64 er] 32)) 0 false 0 er where
 t := (Bx.new w _ _).on (World.grownBy_alloc _ _ none) (by simp)
 e := by have := Bx.new (w.alloc (.cells #[.int .i32 0, .bool false, .int .i64 0] 337)) #[.int .i64 er] 32; simpa using this
/-- both stores -/
theorem Sy.put {w W : World} {c : Int} {b : Bool} {sz er : Int} (h : Sy w W c b sz er) (c' : Int) (b' : Bool) (sz' er' : Int) : Sy w ((((W.setCell ⟨w.heap.size, 0, none⟩ (.int .i32 c')).setCell ⟨w.heap.size, 1, none⟩ (.bool b')).setCell ⟨w.heap.size, 2, none⟩ (.int .i64 sz')).setCell ⟨w.heap.size + 1, 0, none⟩ (.int .i64 er')) c' b' sz' er' where
 t := (((h.t.set 0 _).set 1 _).set 2 _).on (grown_put (grown_refl _ (some (w.heap.size + 1))) _) (by simp)
 e := (h.e.on (row := some w.heap.size) (grown_put (grown_put (grown_put (grown_refl _ _) _) _) _) (by simp)).set 0 _
theorem Sy.below {w W : World} (h : Below w.heap.size w W) (x0 x1 x2 x3 : Value) : Below w.heap.size w ((((W.setCell ⟨w.heap.size, 0, none⟩ x0).setCell ⟨w.heap.size, 1, none⟩ x1).setCell ⟨w.heap.size, 2, none⟩ x2).setCell ⟨w.heap.size + 1, 0, none⟩ x3) := (((h.setCell (by simp) _).setCell (by simp) _).setCell (by simp) _).setCell (by simp) _
theorem Sy.res {tmps : Array Value} {w W : World} {c : Int} {b : Bool} {sz er : Int} (h : Sy w W c b sz er) (h4 : tmps.getD 4 undef = .pointer (some ⟨w.heap.size, 0, none⟩)) (h5 : tmps.getD 5 undef = .pointer (some ⟨w.heap.size + 1, 0, none⟩)) :
  (results Tryz.f278 tmps).run Tryz.prog W = .ok (.tuple #[.agg #[.int .i32 c, .bool b, .int .i64 sz], .int .i64 er]) W := by
 obtain ⟨⟨p0, p1, p2⟩, p3, _, _⟩ := h.cells
 have h4' : tmps[4]?.getD undef = .pointer (some ⟨w.heap.size, 0, none⟩) := by simpa using h4
 have h5' : tmps[5]?.getD undef = .pointer (some ⟨w.heap.size + 1, 0, none⟩) := by simpa using h5
 simp [results, Tryz.results278, go_sem, h4', h5', p0, p1, p2, p3]
theorem Sy.own {β : Type} {w : World} {c : β → Int} {b : β → Bool} {sz er : β → Int} : Own (fun s W => Sy w W (c s) (b s) (sz s) (er s)) := fun s X Y row hs hg hr => hs.on hg
 (fun e => by obtain ⟨o, ho, hc⟩ := hr _ e.symm; rw [show X.heap[w.heap.size]? = _ from hs.t] at ho; cases ho; cases hc)
 (fun e => by obtain ⟨o, ho, hc⟩ := hr _ e.symm; rw [show X.heap[w.heap.size + 1]? = _ from hs.e] at ho; cases ho; cases hc)
theorem decode_valid (s : ByteArray) (i : Nat) : (Utf8.decode s i).1 ≤ 1114111 ∧ ¬ (55296 ≤ (Utf8.decode s i).1 ∧ (Utf8.decode s i).1 ≤ 57343) := by
 have hb : ∀ k, (s.get! (i + k)).toNat < 256 := fun k => (s.get! (i + k)).toNat_lt
 have h0 := hb 0; have h1 := hb 1; have h2 := hb 2; have h3 := hb 3
 simp only [Utf8.decode]
 repeat' split
 all_goals simp_all [Utf8.runeError, Utf8.valid]
 all_goals omega
theorem cutsN_code (s : ByteArray) : ∀ n i (x : Nat × Int), x ∈ cutsN s n i → ∃ j, x.2 = codeAt s j
 | 0, _, _, h => by cases h
 | n + 1, i, x, h => by
  simp only [cutsN] at h
  split at h
  ·rcases List.mem_cons.1 h with rfl | h'
   ·exact ⟨i, rfl⟩
   ·exact cutsN_code s n _ x h'
  ·cases h
theorem cuts_len (s : ByteArray) (x : Nat × Int) (h : x ∈ cuts s) (h0 : 0 ≤ x.2) : 1 ≤ runeLen x.2 ∧ runeLen x.2 ≤ 6 := by
 obtain ⟨j, hj⟩ := cutsN_code s _ _ x h
 have hv := decode_valid s j
 rw [hj] at h0 ⊢
 unfold codeAt at h0 ⊢
 split at h0
 ·omega
 ·rename_i hn
  rw [if_neg hn]
  unfold runeLen
  repeat' split
  all_goals omega
theorem ko4 (w : World) (a : Addr) (x : Value) (b : Addr) (y : Value) (c : Addr) (z : Value) (d : Addr) (t : Value) : KeepsOthers w ((((w.setCell a x).setCell b y).setCell c z).setCell d t) := (((KeepsOthers.setCell _ _ _).trans (KeepsOthers.setCell _ _ _)).trans (KeepsOthers.setCell _ _ _)).trans (KeepsOthers.setCell _ _ _)
set_option maxHeartbeats 2000000 in
theorem say108 (s : ByteArray) (p : Nat) (w : World) (hs : s.size ≤ 1048576) (hp : p < s.size) : Calls Tryz.prog 278 #[.string s, .int .i64 p] w (Say s w) := by
 refine (callsIn_wide (n := 5)).1 ?_
 refine callsIn_of_wp_marks Tryz.func278 rfl trivial ?_ rfl
 simp only [Tryz.ntmps278, List.size_toArray, List.length_cons, List.length_nil, Nat.reduceAdd, Nat.reduceSub, Array.replicate_succ, Array.replicate_zero, List.push_toArray, List.append_toArray, List.nil_append, List.cons_append]
 have hS0 := hid (Sy.start w)
 have hB0 := hid (below2 w (.cells #[.int .i32 0, .bool false, .int .i64 0] 337) (.cells #[.int .i64 0] 32))
 by_cases h92 : (s[p]'hp).toNat = 92
 ·have hq : (((s[p]'hp).toNat : Int) == 92) = true := by simp; omega
  gi_wp2
  refine ⟨trivial, ?_⟩
  refine (callsIn_wide.2 (escape114 (s.extract p s.size) _ (by simp; omega))).mono ?_
  rintro e w1 ⟨⟨c, b, sz, ok, rfl, hok⟩, hb⟩
  have hS1 := hid (hS0.out.on (grown_of_below hb) (by simp) (by simp))
  have hB1 := hid (hB0.out.trans (hb.mono hB0.out.size))
  obtain ⟨⟨p0, p1, p2⟩, p3, p4, p5⟩ := hS1.out.cells
  have hl1 := hS1.out.t.lt
  have hl2 := hS1.out.e.lt
  have hok' := hid hok
  clear hb hok
  cases ok
  ·gi_wp2
   exact ⟨_, ((hS1.out.put 0 false 0 12).on (World.grownBy_alloc _ _ none) (by simp) (by simp)).res rfl rfl, ⟨_, _, _, _, rfl, fun h => by cases h⟩, (Sy.below hB1.out _ _ _ _).alloc (by simp; omega) _⟩
  ·gi_wp2
   exact ⟨_, ((hS1.out.put c b sz 0).on (World.grownBy_alloc _ _ none) (by simp) (by simp)).res rfl rfl, ⟨_, _, _, _, rfl, fun _ => by have := hok'.out trivial; omega⟩, (Sy.below hB1.out _ _ _ _).alloc (by simp; omega) _⟩
 ·have hq : (((s[p]'hp).toNat : Int) == 92) = false := by simp; omega
  obtain ⟨W0, hW0⟩ : ∃ W0, W0 = ((w.alloc (.cells #[.int .i32 0, .bool false, .int .i64 0] 337)).alloc (.cells #[.int .i64 0] 32)).alloc (.cells #[.string (s.extract p s.size)] 9) := ⟨_, rfl⟩
  have hS1 : Hid (Sy w W0 0 false 0 0) := hid (by rw [hW0]; exact hS0.out.on (World.grownBy_alloc _ _ none) (by simp) (by simp))
  have hB1 : Hid (Below w.heap.size w W0) := hid (by rw [hW0]; exact hB0.out.alloc (by simp; omega) _)
  have hsz : W0.heap.size = w.heap.size + 3 := by rw [hW0]; simp
  have b7 : Boxed W0 (w.heap.size + 1 + 1) 9 (.string (s.extract p s.size)) := by
   rw [hW0]; have := Boxed.new ((w.alloc (.cells #[.int .i32 0, .bool false, .int .i64 0] 337)).alloc (.cells #[.int .i64 0] 32)) 9 (.string (s.extract p s.size)); simpa using this
  gi_wp2
  ·exact ⟨_, (Sy.start w 10).res rfl rfl, ⟨_, _, _, _, rfl, fun h => by cases h⟩, below2 _ _ _⟩
  rotate_left
  ·exact ⟨_, (Sy.start w 10).res rfl rfl, ⟨_, _, _, _, rfl, fun h => by cases h⟩, below2 _ _ _⟩
  refine ⟨trivial, ?_⟩
  refine (callsIn_wide.2 (cutting74 _ _)).mono ?_
  rintro e w1 ⟨rfl, rfl⟩
  gi_wp2
  rw [← hW0]
  refine wpIn_rangeFunc_ownF (w0 := W0) rfl (by omega) (gf := 253) (lb := #[.pointer (some ⟨w.heap.size + 1 + 1, 0, none⟩)]) rfl trivial (enters_of Tryz.func253 (by kernel_rfl) rfl)
   (cut_stops 4 (by omega) (w.heap.size + 1 + 1) W0.heap.size (s.extract p s.size) (by simp; omega) W0 (by omega) (Nat.le_refl _) b7.cell) Kc.t (Kc.b (Nat.le_refl _)) (Below.refl _ _) (fun _ => rfl)
   (fun pre W => Below W0.heap.size W0 W)
   (fun c pre W => (∃ (q : List (Nat × Int) × (Nat × Int) × Int × Bool × Int × Int), (c = .ret ∧ pre = q.1 ++ [q.2.1] ∧ (q.2.2.2.2.2 = 0 → 0 ≤ q.2.1.2 ∧ q.2.2.2.2.1 = runeLen q.2.1.2)) ∧ Sy w W q.2.2.1 q.2.2.2.1 q.2.2.2.2.1 q.2.2.2.2.2) ∧ Below w.heap.size w W)
   (ownFrom_below (Nat.le_refl _) (Nat.le_refl _))
   (fun c => OwnFrom.and (Own.from (fun s' A B row hs hg hr => by obtain ⟨q, h1, h2⟩ := hs; exact ⟨q, h1, Sy.own (c := fun _ : Unit => q.2.2.1) (b := fun _ => q.2.2.2.1) (sz := fun _ => q.2.2.2.2.1) (er := fun _ => q.2.2.2.2.2) () A B row h2 hg hr⟩) _) (ownFrom_below (Nat.le_refl _) (by first | omega | (rw [← hW0]; omega) | (simp; omega))))
   (Below.refl _ _)
   (fun x => { tmps := #[.string s, .int .i64 p, undef, undef, .pointer (some ⟨w.heap.size, 0, none⟩), .pointer (some ⟨w.heap.size + 1, 0, none⟩), undef, undef, undef, .int .i32 x.2, .string s, .int .i64 p, .int .u8 ((s[p]'hp).toNat : Int), .bool false, undef, undef, undef, undef, undef, undef, undef, undef, undef, undef, undef, .string s, .int .i64 p, .int .u8 ((s[p]'hp).toNat : Int), .bool (decide (((s[p]'hp).toNat : Int) < 32)), .bool (decide (((s[p]'hp).toNat : Int) < 32)), .string s, .int .i64 p, .int .u8 ((s[p]'hp).toNat : Int), .bool false, .bool (decide (((s[p]'hp).toNat : Int) < 32)), undef, .string s, .int .i64 p, .string (s.extract p s.size), .func (.func 253) #[] #[.pointer (some ⟨w.heap.size + 1 + 1, 0, none⟩)], .int .i64 x.1, .int .i32 x.2, undef, undef, undef, undef, undef, undef, undef, undef], defers := [] }) ?assign ?body ?done ?stop
  case assign =>
   intro l x W K hK
   gi_wp2
   exact hK
  case body =>
   rintro l pre x W hB _
   have hS2 := hS1.out.on (grown_of_below hB) (by simp) (by simp)
   obtain ⟨⟨p0, p1, p2⟩, p3, p4, p5⟩ := hS2.cells
   have hS2' := hid hS2
   clear hS2
   have hcall := runelen115 x.2 W
   have hBB := hid (hB1.out.trans (hB.mono (by omega)))
   gi_wp2_with (refine ⟨trivial, ?_⟩; gi_at_call 298; refine (CallsIn.inRound l (callsIn_wide.2 hcall)).mono ?_; rintro e w' ⟨rfl, rfl⟩)
   ·exact ⟨ko4 _ _ _ _ _ _ _ _ _, ⟨(pre, x, 0, false, 0, 13), ⟨rfl, rfl, fun h => by simp at h⟩, hS2'.out.put 0 false 0 13⟩, Sy.below hBB.out _ _ _ _⟩
   ·exact ⟨ko4 _ _ _ _ _ _ _ _ _, ⟨(pre, x, x.2, false, runeLen x.2, 0), ⟨rfl, rfl, fun h => ⟨by omega, rfl⟩⟩, hS2'.out.put x.2 false (runeLen x.2) 0⟩, Sy.below hBB.out _ _ _ _⟩
  case done =>
   rintro D ys W hD rfl hB hK
   have hS2 := hS1.out.on (grown_of_below hB) (by simp) (by simp)
   obtain ⟨⟨p0, p1, p2⟩, p3, p4, p5⟩ := hS2.cells
   have hS2' := hid hS2
   clear hS2
   have hBB := hid (hB1.out.trans (hB.mono (by omega)))
   gi_wp2
   have hK2 := (ko4 W ⟨w.heap.size, 0, none⟩ (.int .i32 0) ⟨w.heap.size, 1, none⟩ (.bool false) ⟨w.heap.size, 2, none⟩ (.int .i64 0) ⟨w.heap.size + 1, 0, none⟩ (.int .i64 13)).same D _ hK rfl
   refine ⟨by simp, .inl ⟨_, _, rfl, run_takeDeferred hK2, ?_⟩⟩
   exact ⟨_, ((hS2'.out.put 0 false 0 13).on (grownBy_putObj' _ D (.deferred none)) (by simp; omega) (by simp; omega)).res rfl rfl, ⟨_, _, _, _, rfl, fun h => by simp at h⟩, (Sy.below hBB.out _ _ _ _).trans (belowK_b (w := W0) (by omega) _ D _ _ hD hK2 rfl rfl)⟩
  case stop =>
   rintro D c pre W hD hpre ⟨⟨⟨q1, q2, c, b, sz, er⟩, ⟨rfl, rfl, hq0⟩, hSq⟩, hB⟩ hK
   have hSq' := hid hSq
   have hx : q2 ∈ cuts (s.extract p s.size) := by obtain ⟨rest, hr⟩ := hpre; rw [← hr]; simp
   have hq' := hid hq0
   clear hSq hq0
   gi_wp2
   refine ⟨by simp, .inl ⟨_, _, rfl, run_takeDeferred hK, ?_⟩⟩
   exact ⟨_, (hSq'.out.on (grownBy_putObj' _ D (.deferred none)) (by simp; omega) (by simp; omega)).res rfl rfl, ⟨_, _, _, _, rfl, fun h => by obtain ⟨h1, h2⟩ := hq'.out h; rw [h2]; exact cuts_len _ _ hx h1⟩, hB.trans (belowK_b (w := W0) (by omega) _ D _ _ hD hK rfl rfl)⟩
end
section
open Go.Shelf
attribute [local go_sem] Oper.semAt_some
set_option maxHeartbeats 2000000 in
theorem quoted98 (s : ByteArray) (p : Nat) (w : World) (hs : s.size ≤ 1048576) (hp : p < s.size) :
  Calls Tryz.prog 255 #[.string s, .int .i64 p] w fun e w' => (∃ (k : Nat) (b : Bool), e = .returned (.tuple #[.int .i64 k, .bool b]) ∧ (b = true → p < k ∧ k ≤ s.size)) ∧ w' = w := by
 go_enter Tryz.func255, Tryz.ntmps255
 go_wp2_with fail
 go_loopw [6] (fun x wr => ∃ k : Nat, x = .int .i64 k ∧ p < k ∧ k ≤ s.size + 1 ∧ wr = w) (fun x _ => s.size + 2 - (intOf x).toNat)
 case atStart => exact ⟨p + 1, by go_num, by omega, by omega, rfl⟩
 case round =>
  obtain ⟨k, rfl, hk, hk2, rfl⟩ := hrel
  by_cases hlt : k < s.size
  ·go_wp2_with fail
   ·go_ret2
    exact ⟨⟨k + 1, true, by go_num, fun _ => by omega⟩, rfl⟩
   ·go_roundw
    case rel => exact ⟨k + 2, by go_num, by omega, by omega, trivial⟩
    case measure => simp [intOf]; omega
   ·go_ret2
    exact ⟨⟨0, false, rfl, fun h => by cases h⟩, rfl⟩
   ·go_roundw
    case rel => exact ⟨k + 1, by go_num, by omega, by omega, trivial⟩
    case measure => simp [intOf]; omega
  ·go_wp2_with fail
   go_ret2
   exact ⟨⟨0, false, rfl, fun h => by cases h⟩, rfl⟩
def Lit (w : World) (e : Ending) (w' : World) : Prop := (∃ (v : Value) (p er : Int), e = .returned (.tuple #[v, .int .i64 p, .int .i64 er])) ∧ Below w.heap.size w w'
theorem Row5.nil (B : Nat) (w : World) : Row5 B 0 (.slice none 0 0) w := ⟨[], World.ownsRow_nil _ _ _ _⟩
theorem Row5.on {B m : Nat} {v : Value} {w w' : World} (h : Row5 B m v w) (hb : Below w.heap.size w w') : Row5 B m v w' := by
 obtain ⟨xs, ho⟩ := h
 refine ⟨xs, ho.kept (grown_of_below hb) ?_⟩
 cases h : v.ownBlock
 ·exact .inl rfl
 ·exact .inr (by simp)
set_option maxHeartbeats 4000000 in
theorem bytes99 (s : ByteArray) (w : World) (hs : s.size ≤ 1048576) : Calls Tryz.prog 256 #[.string s] w (Lit w) := by
  go_enter Tryz.func256, Tryz.ntmps256
  by_cases h0 : s.size = 0
  · have : s = ByteArray.empty := by simpa using h0
    subst this
    go_wp2_with fail
    go_ret3
    exact ⟨⟨_, _, _, rfl⟩, Below.refl _ _⟩
  · cases hE : s.toList.isEmpty
    rotate_left
    · go_wp2_with fail
      go_ret3
      exact ⟨⟨_, _, _, rfl⟩, Below.refl _ _⟩
    have h9 : 0 < s.size := by omega
    by_cases h34 : (s[0]'h9).toNat = 34
    rotate_left
    · have hq : (((s[0]'h9).toNat : Int) != 34) = true := by simp; omega
      go_wp2_with fail
      go_ret3
      exact ⟨⟨_, _, _, rfl⟩, Below.refl _ _⟩
    have hq : (((s[0]'h9).toNat : Int) != 34) = false := by simp; omega
    go_wp2_with fail
    go_loopw [5, 6] (fun x i wr => ∃ (k m : Nat), i = .int .i64 k ∧ 1 ≤ k ∧ k ≤ s.size + 6 ∧ m ≤ 4 * k ∧ Row5 w.heap.size m x wr ∧ Below w.heap.size w wr) (fun _ i _ => s.size + 6 - (intOf i).toNat)
    case atStart => exact ⟨1, 0, rfl, by omega, by omega, by omega, Row5.nil _ _, Below.refl _ _⟩
    case round =>
      obtain ⟨k, m, rfl, hk, hk2, hm, hrow, hb⟩ := hrel
      by_cases hlt : k < s.size
      · have hcall := hid (say108 s k wr hs hlt)
        have hR := hid hrow
        have hB := hid hb
        clear hrow hb
        go_wp2_with fail
        · go_ret3
          exact ⟨⟨_, _, _, rfl⟩, hB.out⟩
        · go_ret3
          exact ⟨⟨_, _, _, rfl⟩, hB.out⟩
        refine hcall.out.mono ?_
        rintro e w1 ⟨⟨c, b, sz, er, rfl, hsz⟩, hb1⟩
        have hB1 := hid ((hB.out.trans (hb1.mono hB.out.size)).alloc (by have := hB.out.size; have := hb1.size; omega) (.cells #[.int .i32 c, .bool b, .int .i64 sz] 337))
        have hR2 := hid (And.intro hb1.size (fun k hk => by obtain ⟨xs, ho⟩ := hR.out; exact ho.lt k hk : ∀ k, u5.ownBlock = some k → w.heap.size ≤ k ∧ k < wr.heap.size))
        have hR1 := hid ((hR.out.on hb1).on ((Below.refl _ _).alloc (Nat.le_refl _) (.cells #[.int .i32 c, .bool b, .int .i64 sz] 337)))
        clear hb1
        by_cases her : er = 0
        · subst her
          obtain ⟨sn, rfl⟩ : ∃ n : Nat, sz = n := ⟨sz.toNat, by have := hsz rfl; omega⟩
          have hZ : 1 ≤ sn ∧ sn ≤ 6 := by have := hsz rfl; omega
          clear hsz
          obtain ⟨xs, hO0⟩ := hR1.out
          have hO := hid hO0
          have hne : some w1.heap.size ≠ u5.ownBlock := fun e => by
            have := (hR2.out.2 _ e.symm).2
            have := hR2.out.1
            omega
          have hsz9 : w.heap.size ≤ (w1.alloc (.cells #[.int .i32 c, .bool b, .int .i64 sn] 337)).heap.size := hB1.out.size
          clear hO0
          have hcall2 := fun r => hid (append109 w.heap.size m _ r _ hR1.out (by omega) hsz9)
          cases b
          all_goals go_wp2_with (first
            | (go_loud (at_builtin; refine wpList_append_str rfl _ _ 295 rfl w.heap.size 5 5 (.int .u8 0) 1 1 1 Tryz.underlying295 (by kernel_rfl) rfl (by decide) _ m _ [_] (0, 0) hO.out rfl (by simp [Value.oneCell']) (by unfold maxLen; omega) (by omega) hsz9 rfl (by first | rfl | exact congrArg (fun n => Value.slice (some ⟨n, 0, none⟩) 1 1) (by simp) | (simp [go_sem]; done)) ?_; intro v' w' hA; have hA' := hid (app_of hA hO.out hsz9 (by omega)); have hX := (Bx.new w1 #[.int .i32 c, .bool true, .int .i64 sn] 337).on hA.grown hne; have p0 := hX.cell 0; have p1 := hX.cell 1; have p2 := hX.cell 2; have hlt9 := hX.lt; clear hX; clear hA))
            | (go_at_call 279; refine (hcall2 _).out.mono ?_; intro e2 w2 hA; have hA' := hid hA; clear hA; obtain ⟨v3, m3, rfl, _, _, _, hG⟩ := hA'.out; have hX := (Bx.new w1 #[.int .i32 c, .bool false, .int .i64 sn] 337).on hG hne; have p0 := hX.cell 0; have p1 := hX.cell 1; have p2 := hX.cell 2; have hlt9 := hX.lt; clear hX hG))
          all_goals
            obtain ⟨v2, m2, hv2, h2, h3, h4, h5⟩ := hA'.out
            cases hv2
            go_roundw
            case rel => exact ⟨k + sn, m2, by go_num, by omega, by omega, by omega, h2, hB1.out.trans h4⟩
            case measure => simp [intOf]; omega
        · go_wp2_with fail
          all_goals
            first
              | (go_ret3
                 exact ⟨⟨_, _, _, rfl⟩, hB1.out⟩)
              | (exfalso; simp_all; done)
      · go_wp2_with fail
        go_ret3
        exact ⟨⟨_, _, _, rfl⟩, hb⟩
end
section
open Go.Shelf
attribute [local go_sem] Oper.semAt_some
set_option maxHeartbeats 4000000 in
theorem rune100 (s : ByteArray) (w : World) (hs : s.size ≤ 1048576) : Calls Tryz.prog 257 #[.string s] w (Lit w) := by
  go_enter Tryz.func257, Tryz.ntmps257
  by_cases h0 : s.size = 0
  · have : s = ByteArray.empty := by simpa using h0
    subst this
    go_wp2_with fail
    go_ret3
    exact ⟨⟨_, _, _, rfl⟩, Below.refl _ _⟩
  · cases hE : s.toList.isEmpty
    rotate_left
    · go_wp2_with fail
      go_ret3
      exact ⟨⟨_, _, _, rfl⟩, Below.refl _ _⟩
    have h9 : 0 < s.size := by omega
    by_cases h34 : (s[0]'h9).toNat = 39
    rotate_left
    · have hq : (((s[0]'h9).toNat : Int) != 39) = true := by simp; omega
      go_wp2_with fail
      go_ret3
      exact ⟨⟨_, _, _, rfl⟩, Below.refl _ _⟩
    have hq : (((s[0]'h9).toNat : Int) != 39) = false := by simp; omega
    by_cases h1 : s.size = 1
    · have hq1 : ((s.size : Int) == 1) = true := by simp; omega
      go_wp2_with fail
      go_ret3
      exact ⟨⟨_, _, _, rfl⟩, Below.refl _ _⟩
    have hq1 : ((s.size : Int) == 1) = false := by simp; omega
    have h2 : 1 < s.size := by omega
    by_cases h35 : (s[1]'h2).toNat = 39
    · have hq2 : (((s[1]'h2).toNat : Int) == 39) = true := by simp; omega
      go_wp2_with fail
      go_ret3
      exact ⟨⟨_, _, _, rfl⟩, Below.refl _ _⟩
    have hq2 : (((s[1]'h2).toNat : Int) == 39) = false := by simp; omega
    have hcall := hid (say108 s 1 w hs h2)
    go_wp2_with fail
    refine hcall.out.mono ?_
    rintro e w1 ⟨⟨c, b, sz, er, rfl, hsz⟩, hb1⟩
    have hB1 := hid (hb1.alloc (by have := hb1.size; omega) (.cells #[.int .i32 c, .bool b, .int .i64 sz] 337))
    clear hb1
    by_cases her : er = 0
    · subst her
      obtain ⟨sn, rfl⟩ : ∃ n : Nat, sz = n := ⟨sz.toNat, by have := hsz rfl; omega⟩
      have hZ : 1 ≤ sn ∧ sn ≤ 6 := by have := hsz rfl; omega
      clear hsz
      by_cases hge : s.size ≤ 1 + sn
      · go_wp2_with fail
        all_goals
          go_ret3
          exact ⟨⟨_, _, _, rfl⟩, hB1.out⟩
      · go_wp2_with fail
        all_goals
          go_ret3
          exact ⟨⟨_, _, _, rfl⟩, hB1.out⟩
    · go_wp2_with fail
      all_goals
        first
          | (go_ret3
             exact ⟨⟨_, _, _, rfl⟩, hB1.out⟩)
          | (exfalso; simp_all; done)
set_option maxHeartbeats 4000000 in
theorem literal80 (s : ByteArray) (p : Nat) (w : World) (hs : s.size ≤ 1048576) (hp : p < s.size) : Calls Tryz.prog 234 #[.string s, .int .i64 p] w
    fun e w' => (∃ k er : Int, e = .returned (.tuple #[.int .i64 k, .int .i64 er]) ∧ (er = 0 → ∃ n : Nat, k = n ∧ p < n ∧ n ≤ s.size)) ∧ Below w.heap.size w w' := by
  have hc98 := hid (quoted98 s p w hs hp)
  go_enter Tryz.func234, Tryz.ntmps234
  go_wp2_with fail
  refine hc98.out.mono ?_
  rintro e w1 ⟨⟨k, b, rfl, hb⟩, rfl⟩
  have hb' := hid hb
  clear hb
  cases b
  · go_wp2_with fail
    go_ret2
    exact ⟨⟨_, _, rfl, fun h => by simp at h⟩, Below.refl _ _⟩
  have hk := hb'.out rfl
  have hex : (s.extract p k).size ≤ 1048576 := by simp; omega
  have hc99 := hid (bytes99 (s.extract p k) w1 hex)
  have hc100 := hid (rune100 (s.extract p k) w1 hex)
  by_cases hq : (s[p]'hp).toNat = 34
  · have hq2 : (((s[p]'hp).toNat : Int) == 34) = true := by simp; omega
    go_wp2_with fail
    refine hc99.out.mono ?_
    rintro e w2 ⟨⟨v, p2, er, rfl⟩, hB⟩
    have hB' := hid hB
    clear hB
    by_cases her : er = 0
    · subst her
      go_wp2_with fail
      go_ret2
      exact ⟨⟨_, _, rfl, fun h => ⟨k, rfl, hk.1, hk.2⟩⟩, hB'.out⟩
    · go_wp2_with fail
      first
        | (go_ret2
           exact ⟨⟨_, _, rfl, fun h => absurd h her⟩, hB'.out⟩)
  · have hq2 : (((s[p]'hp).toNat : Int) == 34) = false := by simp; omega
    go_wp2_with fail
    refine hc100.out.mono ?_
    rintro e w2 ⟨⟨v, p2, er, rfl⟩, hB⟩
    have hB' := hid hB
    clear hB
    by_cases her : er = 0
    · subst her
      go_wp2_with fail
      go_ret2
      exact ⟨⟨_, _, rfl, fun h => ⟨k, rfl, hk.1, hk.2⟩⟩, hB'.out⟩
    · go_wp2_with fail
      first
        | (go_ret2
           exact ⟨⟨_, _, rfl, fun h => absurd h her⟩, hB'.out⟩)
end
section
open Go.Shelf
attribute [local go_sem] Oper.semAt_some
theorem merge8 {P : Program} {ops} {b : Bool} {y : Code} {Q : Exit → Act → World → Prop} {a : Act} {w : World} (R : Act → World → Prop)
  (h1 : ∀ K : Act → World → Prop, (∀ a w, R a w → K a w) → (Code.region 8 ops b).wp P (Exit.then K Q) a w) (h2 : ∀ a w, R a w → y.wp P Q a w) : (Code.seq (Code.region 8 ops b) y).wp P Q a w :=
 wp_seq_k fun K hK => h1 K (fun a w h => hK a w (h2 a w h))
set_option maxHeartbeats 40000000 in
theorem figured79 (s : ByteArray) (p : Nat) (w : World) (hs : s.size ≤ 1048576) (hp : p < s.size) (hd : digitB ((s[p]'hp).toNat : Int) = true) : Calls Tryz.prog 233 #[.string s, .int .i64 p] w
    fun e w' => (∃ k : Nat, e = .returned (.int .i64 k) ∧ p < k ∧ k ≤ s.size) ∧ w' = w := by
  have hcall := fun t (ht : t.size = 2) => prefix97 (s.extract p s.size) t w (by simp; omega) (by omega)
  have hdig := fun r => digit77 r w
  go_enter Tryz.func233, Tryz.ntmps233
  go_wp2_with (go_at_call 254; refine (hcall _ rfl).mono ?_; rintro e w' ⟨rfl, hw⟩; subst w')
  rotate_left
  cases hP : prefixed (s.extract p s.size) ⟨#[48, 88]⟩
  all_goals
    go_loopw [6] (fun x wr => ∃ k : Nat, x = .int .i64 k ∧ p ≤ k ∧ k ≤ s.size ∧ wr = w) (fun x _ => s.size - (intOf x).toNat)
    case atStart => exact ⟨p, rfl, Nat.le_refl _, by omega, rfl⟩
    case round =>
      obtain ⟨k, rfl, hk, hk2, hw⟩ := hrel; subst wr
      by_cases hlt : k < s.size
      · have hwr : wrap32 ((s[k]'hlt).toNat : Int) = ((s[k]'hlt).toNat : Int) := by have := (s[k]'hlt).toNat_lt; unfold wrap32; omega
        by_cases hkp : k = p
        · subst hkp
          have hc77 := hdig ((s[k]'hlt).toNat : Int)
          rw [hd] at hc77
          go_wp2_with fail
          refine hc77.mono ?_
          rintro e w' ⟨rfl, hw⟩
          subst w'
          go_wp2_with fail
          all_goals
            go_roundw
            case rel => exact ⟨k + 1, by go_num, by omega, by omega, trivial⟩
            case measure => simp [intOf]; omega
        · have hgt : p < k := by omega
          have hc77 := hdig ((s[k]'hlt).toNat : Int)
          clear hdig hcall
          refine wp_seq_k fun K1 h1 => ?_
          have h1' := hid h1
          clear h1
          go_wp2_with fail
          refine h1'.out _ _ (wp_block ?_)
          clear h1' K1
          iterate 3
            refine wp_seq_k fun K1 h1 => ?_
            have h1' := hid h1
            clear h1
            go_wp2_with fail
            refine h1'.out _ _ ?_
            clear h1' K1
          apply merge8 (fun a' w' => w' = w ∧ ∃ (b9 : Bool) (x8 x31 x32 x33 x34 x35 x36 x37 x38 x39 x40 x41 x42 x43 x44 x45 x46 x47 x48 : Value), a' = ⟨#[_, _, _, _, _, _, _, _, x8, .bool b9, _, _, _, _, _, _, _, _, _, _, _, _, _, _, _, _, _, _, _, _, _, x31, x32, x33, x34, x35, x36, x37, x38, x39, x40, x41, x42, x43, x44, x45, x46, x47, x48, _, _, _, _, _, _, _, _, _, _, _, _, _, _, _, _, _, _, _, _, _, _, _, _, _, _, _, _, _, _, _, _, _, _], []⟩)
          case h1 =>
            intro K hK
            have hK' := hid hK
            clear hK
            go_wp2_with fail
            all_goals
              have hK := hK'.out
              exact hK _ _ ⟨rfl, _, _, _, _, _, _, _, _, _, _, _, _, _, _, _, _, _, _, _, _, rfl⟩
          case h2 =>
            rintro _ _ ⟨rfl, b9, x8, x31, x32, x33, x34, x35, x36, x37, x38, x39, x40, x41, x42, x43, x44, x45, x46, x47, x48, rfl⟩
            go_wp2_with (go_at_call 231; refine hc77.mono ?_; rintro e w' ⟨rfl, hw⟩; subst w')
            all_goals first
              | (go_roundw
                 case rel => exact ⟨k + 1, by go_num, by omega, by omega, trivial⟩
                 case measure => simp [intOf]; omega)
              | (go_ret
                 exact ⟨⟨k, rfl, by omega, hk2⟩, rfl⟩)
      · go_wp2_with fail
        go_ret
        exact ⟨⟨k, rfl, by omega, hk2⟩, rfl⟩
end
section
open Go.Shelf
attribute [local go_sem] Oper.semAt_some
theorem signed81 (s : ByteArray) (p : Nat) (w : World) : Calls Tryz.prog 235 #[.string s, .int .i64 p, .slice none 0 0] w fun e w' => e = .returned (.string ⟨#[]⟩) ∧ w' = w := by
 go_enter Tryz.func235, Tryz.ntmps235
 go_wp2_with fail
 go_loopw [7, 12] (fun y x wr => y = .string ⟨#[]⟩ ∧ x = .int .i64 0 ∧ wr = w) (fun _ _ _ => 0)
 case atStart => exact ⟨rfl, rfl, rfl⟩
 case round =>
  obtain ⟨rfl, rfl, rfl⟩ := hrel
  go_wp2_with fail
  go_ret
  exact ⟨rfl, rfl⟩
theorem fit54 (w : World) : Calls Tryz.prog 202 #[.slice none 0 0] w fun e w' => e = .returned (.bool true) ∧ w' = w := by
 go_enter Tryz.func202, Tryz.ntmps202
 go_wp2_with fail
 go_loopw [10] (fun x wr => x = .int .i64 0 ∧ wr = w) (fun _ _ => 0)
 case atStart => exact ⟨rfl, rfl⟩
 case round =>
  obtain ⟨rfl, rfl⟩ := hrel
  go_wp2_with fail
  go_ret
  exact ⟨rfl, rfl⟩
set_option maxHeartbeats 1000000 in
theorem index73 (s : ByteArray) (c : Int) (w : World) : Calls Tryz.prog 227 #[.string s, .int .u8 c] w fun e w' => e = .returned (.int .i64 (Lib.indexByte s.data.toList c.toNat.toUInt8)) ∧ w' = w := by
 go_enter Tryz.func227, Tryz.ntmps227
 go_wp2
 rw [run_callFunc_extern Tryz.func252 (by kernel_rfl) (by kernel_rfl) (by kernel_rfl) (e := Extern.BytealgIndexByte.indexByte) (by kernel_rfl), Lib.run_indexByteString]
 simp only [Result.andThen]
 rw [Oper.upon_value]
 go_wp2
 go_ret
 exact ⟨rfl, rfl⟩
theorem index55 (s : ByteArray) (c : Int) (w : World) : Calls Tryz.prog 203 #[.string s, .int .u8 c] w fun e w' => e = .returned (.int .i64 (Lib.indexByte s.data.toList c.toNat.toUInt8)) ∧ w' = w := by
 have h := index73 s c w
 go_enter Tryz.func203, Tryz.ntmps203
 go_wp2_with fail
 refine h.mono ?_
 rintro e w2 ⟨rfl, rfl⟩
 go_wp2_with fail
 go_ret
 exact ⟨rfl, rfl⟩
theorem indexByte_lt : ∀ (l : List UInt8) (c : UInt8), l ≠ [] → Lib.indexByte l c < l.length
 | [], _, h => absurd rfl h
 | b :: l, c, _ => by
  simp only [Lib.indexByte]
  repeat' split
  ·simp <;> omega
  ·simp <;> omega
  ·rename_i h1 h2
   have : l ≠ [] := fun e => by subst e; simp [Lib.indexByte] at h2
   have := indexByte_lt l c this
   simp
   omega
end
section
open Go.Shelf
attribute [local go_sem] Oper.semAt_some
def inList (L : List ByteArray) (x : ByteArray) : Bool := L.any fun y => x.toList == y.toList
set_option maxHeartbeats 1000000 in
theorem index82 (L : List ByteArray) (B : Nat) (x : ByteArray) (w : World) (hn : L.length ≤ 1000) (h : ∀ i (hi : i < L.length), w.cell? ⟨B, i, none⟩ = some (.string L[i])) :
  Calls Tryz.prog 236 #[.slice (some ⟨B, 0, none⟩) L.length L.length, .string x] w fun e w' => (∃ r : Int, e = .returned (.int .i64 r) ∧ decide (0 ≤ r) = inList L x) ∧ w' = w := by
 go_enter Tryz.func236, Tryz.ntmps236
 go_wp2_with fail
 go_loopw [8] (fun y wr => ∃ k : Nat, y = .int .i64 k ∧ k ≤ L.length ∧ (∀ j (hj : j < L.length), j < k → (x.toList == L[j].toList) = false) ∧ wr = w) (fun y _ => L.length - (intOf y).toNat)
 case atStart => exact ⟨0, rfl, Nat.zero_le _, fun j _ hj => by omega, rfl⟩
 case round =>
  obtain ⟨k, rfl, hk, hno, hw⟩ := hrel
  subst wr
  have hno' := hid hno
  clear hno
  by_cases hlt : k < L.length
  ·have hc := h k hlt
   cases hq : x.toList == L[k].toList
   ·have key : Hid (∀ j (hj : j < L.length), j < k + 1 → (x.toList == L[j].toList) = false) := hid (fun j hj hjk => by
     rcases Nat.lt_or_ge j k with h1 | h1
     ·exact hno'.out j hj h1
     ·have e : j = k := by omega
      subst e
      exact hq)
    go_wp2_with fail
    go_roundw
    case rel => exact ⟨k + 1, by go_num, by omega, key.out, trivial⟩
    case measure => simp [intOf]; omega
   ·go_wp2_with fail
    go_ret
    refine ⟨⟨k, rfl, ?_⟩, rfl⟩
    have : inList L x = true := List.any_eq_true.2 ⟨L[k], List.getElem_mem _, hq⟩
    rw [this]
    simp
  ·go_wp2_with fail
   go_ret
   refine ⟨⟨-1, rfl, ?_⟩, rfl⟩
   have : inList L x = false := List.any_eq_false.2 (fun y hy => by
    obtain ⟨j, hj, rfl⟩ := List.getElem_of_mem hy
    rw [hno'.out j hj (by omega)]
    simp)
   rw [this]
   rfl
theorem contains59 (L : List ByteArray) (B : Nat) (x : ByteArray) (w : World) (hn : L.length ≤ 1000) (h : ∀ i (hi : i < L.length), w.cell? ⟨B, i, none⟩ = some (.string L[i])) :
  Calls Tryz.prog 207 #[.slice (some ⟨B, 0, none⟩) L.length L.length, .string x] w fun e w' => e = .returned (.bool (inList L x)) ∧ w' = w := by
 have hcall := index82 L B x w hn h
 go_enter Tryz.func207, Tryz.ntmps207
 go_wp2_with fail
 refine hcall.mono ?_
 rintro e w2 ⟨⟨r, rfl, hr⟩, hw⟩
 subst w2
 go_wp2_with fail
 go_ret
 exact ⟨ret_bool (by rw [← hr]), rfl⟩
def resL : List ByteArray := [⟨#[118, 97, 114]⟩, ⟨#[105, 110, 116]⟩, ⟨#[102, 108, 111, 97, 116]⟩, ⟨#[104, 111, 115, 116]⟩, ⟨#[102, 117, 110, 99]⟩, ⟨#[111, 112, 101, 110]⟩, ⟨#[105, 102]⟩, ⟨#[101, 108, 115, 101]⟩, ⟨#[119, 104, 105, 108, 101]⟩, ⟨#[98, 114, 101, 97, 107]⟩, ⟨#[99, 111, 110, 116, 105, 110, 117, 101]⟩, ⟨#[114, 101, 116, 117, 114, 110]⟩]
theorem reserved57 (s : ByteArray) (w : World) : Calls Tryz.prog 205 #[.string s] w fun e w' => e = .returned (.bool (inList resL s)) ∧ Below w.heap.size w w' := by
 have hcall := contains59 resL w.heap.size s (w.alloc (.cells (resL.map Value.string).toArray 9 (0, 0))) (by decide) (fun i hi => by
  rw [World.cell?_alloc_mark]
  simp [hi])
 go_enter Tryz.func205, Tryz.ntmps205
 go_wp2_with fail
 refine hcall.mono ?_
 rintro e w2 ⟨rfl, hw⟩
 subst w2
 go_wp2_with fail
 go_ret
 exact ⟨rfl, (Below.refl _ _).alloc (Nat.le_refl _) _⟩
end
section
open Go.Shelf
attribute [local go_sem] Oper.semAt_some
end
section
open Go.Shelf
attribute [local go_sem] Oper.semAt_some
def by' (s : ByteArray) (k i : Nat) : Nat := (s.get! (k + i)).toNat
def val (s : ByteArray) (k : Nat) (base : Int) : Nat → Int
 | 0 => base
 | j + 1 => val s k base j * 64 + by' s k (j + 1) - 128
end
section
open Go.Shelf
attribute [local go_sem] Oper.semAt_some
end
end Go.Proofs.YtlabadkfkbenoaaGreatDoor
