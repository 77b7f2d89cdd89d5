/- Walks: a rune appended, the say of a literal: they answer. No condition. -/
import Derived.Test.YtecpkadjnecbiaaGreatDoorProg
import Derived.Test.YtecpkadjnecbiaaGreatDoorTokC
import Derived.Test.YtecpkadjnecbiaaGreatDoorTokB
import Derived.Test.YtecpkadjnecbiaaGreatDoorKitG
import Derived.Test.YtecpkadjnecbiaaGreatDoorTreeO
namespace Go.Proofs.YtecpkadjnecbiaaGreatDoor
open Go.RowKit
set_option linter.unusedVariables false
set_option linter.unusedSimpArgs false

open Go.Shelf
attribute [local go_sem] Oper.semAt_some

/-- bytes that a call has made -/
def Row5 (base n : Nat) (v : Value) (w : World) : Prop := ∃ xs, w.ownsRow base 5 1 v n xs
def App (base n : Nat) (v : Value) (w : World) (e : Ending) (w' : World) : Prop := ∃ v' m, e = .returned v' ∧ Row5 base m v' w' ∧ m ≤ n + 4 ∧ Below base w w' ∧ w.grownBy w' v.ownBlock
theorem app_of {base n m : Nat} {w w' : World} {v v' : Value} {xs news : List Value} (hA : Appended w w' base 5 1 v v' n m xs news) (h : w.ownsRow base 5 1 v n xs) (hB : base ≤ w.heap.size) (hm : m ≤ 4) : App base n v w (.returned v') w' :=
  ⟨v', n + m, rfl, ⟨_, hA.own⟩, by omega, (Below.refl base w).grown hA.grown hB (fun k hk => (h.lt k hk).1), hA.grown⟩
set_option maxRecDepth 100000 in
set_option maxHeartbeats 2000000 in
theorem append116 (base n : Nat) (v : Value) (r : Int) (w : World) (hv : Row5 base n v w) (hn : n ≤ 100000000) (hB : base ≤ w.heap.size) : Calls Tryz.prog 116 #[v, .int .i32 r] w (App base n v w) := by
  obtain ⟨xs, ho⟩ := hv
  have hO := hid ho
  have hlt : n ≤ 100000000 := hn
  clear ho hn
  go_enter Tryz.func116, Tryz.ntmps116
  go_wp2_with (first
    | (at_builtin; refine wpList_append_str rfl _ _ 112 rfl base 5 5 (.int .u8 0) 1 1 2 Tryz.underlying112 (by kernel_rfl) rfl (by decide) _ n _ [_, _] (0, 0) hO.out rfl (by simp [Value.oneCell']) (by unfold maxLen; omega) (by omega) hB rfl rfl ?_; intro v' w' hA; have hA' := hid hA; clear hA)
    | (at_builtin; refine wpList_append_str rfl _ _ 112 rfl base 5 5 (.int .u8 0) 1 1 3 Tryz.underlying112 (by kernel_rfl) rfl (by decide) _ n _ [_, _, _] (0, 0) hO.out rfl (by simp [Value.oneCell']) (by unfold maxLen; omega) (by omega) hB rfl rfl ?_; intro v' w' hA; have hA' := hid hA; clear hA)
    | (at_builtin; refine wpList_append_str rfl _ _ 112 rfl base 5 5 (.int .u8 0) 1 1 4 Tryz.underlying112 (by kernel_rfl) rfl (by decide) _ n _ [_, _, _, _] (0, 0) hO.out rfl (by simp [Value.oneCell']) (by unfold maxLen; omega) (by omega) hB rfl rfl ?_; intro v' w' hA; have hA' := hid hA; clear hA))
  all_goals
    go_ret
    exact app_of hA'.out hO.out hB (by omega)
set_option maxRecDepth 100000 in
set_option maxHeartbeats 2000000 in
theorem append109 (base n : Nat) (v : Value) (r : Int) (w : World) (hv : Row5 base n v w) (hn : n ≤ 100000000) (hB : base ≤ w.heap.size) : Calls Tryz.prog 109 #[v, .int .i32 r] w (App base n v w) := by
  have hcall := hid (append116 base n v r w hv hn hB)
  obtain ⟨xs, ho⟩ := hv
  have hO := hid ho
  have hlt : n ≤ 100000000 := hn
  clear ho hn
  go_enter Tryz.func109, Tryz.ntmps109
  go_wp2_with (at_builtin; refine wpList_append_str rfl _ _ 112 rfl base 5 5 (.int .u8 0) 1 1 1 Tryz.underlying112 (by kernel_rfl) rfl (by decide) _ n _ [_] (0, 0) hO.out rfl (by simp [Value.oneCell']) (by unfold maxLen; omega) (by omega) hB rfl rfl ?_; intro v' w' hA; have hA' := hid hA; clear hA)
  · go_ret
    exact app_of hA'.out hO.out hB (by omega)
  · refine hcall.out.mono ?_
    rintro e w2 ⟨v', m, rfl, h1, h2, h3⟩
    have H := hid (And.intro h1 (And.intro h2 h3))
    clear h1 h2 h3 hcall hO
    go_wp2_with fail
    go_ret
    exact ⟨_, _, rfl, H.out.1, H.out.2.1, H.out.2.2.1, H.out.2.2.2⟩

def Say (s : ByteArray) (w : World) (e : Ending) (w' : World) : Prop :=
  (∃ (c : Int) (b : Bool) (sz er : Int), e = .returned (.tuple #[.agg #[.int .i32 c, .bool b, .int .i64 sz], .int .i64 er]) ∧ (er = 0 → 1 ≤ sz ∧ sz ≤ 6)) ∧ Below w.heap.size w w'
/-- the two results of 'say' -/
structure Sy (w W : World) (c : Int) (b : Bool) (sz er : Int) : Prop where
  t : Bx W w.heap.size #[.int .i32 c, .bool b, .int .i64 sz] 135
  e : Bx W (w.heap.size + 1) #[.int .i64 er] 29
theorem Sy.cells {w W : World} {c : Int} {b : Bool} {sz er : Int} (h : Sy w W c b sz er) : (W.cell? ⟨w.heap.size, 0, none⟩ = some (.int .i32 c) ∧ W.cell? ⟨w.heap.size, 1, none⟩ = some (.bool b) ∧ W.cell? ⟨w.heap.size, 2, none⟩ = some (.int .i64 sz)) ∧ W.cell? ⟨w.heap.size + 1, 0, none⟩ = some (.int .i64 er) ∧ (∀ i, W.frozen? ⟨w.heap.size, i, none⟩ = false) ∧ W.frozen? ⟨w.heap.size + 1, 0, none⟩ = false :=
  ⟨⟨h.t.cell 0, h.t.cell 1, h.t.cell 2⟩, h.e.cell 0, h.t.free, h.e.free 0⟩
theorem Sy.on {w W W' : World} {c : Int} {b : Bool} {sz er : Int} (h : Sy w W c b sz er) {row : Option Nat} (hg : W.grownBy W' row) (h1 : some w.heap.size ≠ row) (h2 : some (w.heap.size + 1) ≠ row) : Sy w W' c b sz er := ⟨h.t.on hg h1, h.e.on hg h2⟩
theorem Sy.start (w : World) (er : Int := 0) : Sy w ((w.alloc (.cells #[.int .i32 0, .bool false, .int .i64 0] 135)).alloc (.cells #[.int .i64 er] 29)) 0 false 0 er where
  t := (Bx.new w _ _).on (World.grownBy_alloc _ _ none) (by simp)
  e := by have := Bx.new (w.alloc (.cells #[.int .i32 0, .bool false, .int .i64 0] 135)) #[.int .i64 er] 29; simpa using this
/-- both stores -/
theorem Sy.put {w W : World} {c : Int} {b : Bool} {sz er : Int} (h : Sy w W c b sz er) (c' : Int) (b' : Bool) (sz' er' : Int) : Sy w ((((W.setCell ⟨w.heap.size, 0, none⟩ (.int .i32 c')).setCell ⟨w.heap.size, 1, none⟩ (.bool b')).setCell ⟨w.heap.size, 2, none⟩ (.int .i64 sz')).setCell ⟨w.heap.size + 1, 0, none⟩ (.int .i64 er')) c' b' sz' er' where
  t := (((h.t.set 0 _).set 1 _).set 2 _).on (grown_put (grown_refl _ (some (w.heap.size + 1))) _) (by simp)
  e := (h.e.on (row := some w.heap.size) (grown_put (grown_put (grown_put (grown_refl _ _) _) _) _) (by simp)).set 0 _
theorem Sy.below {w W : World} (h : Below w.heap.size w W) (x0 x1 x2 x3 : Value) : Below w.heap.size w ((((W.setCell ⟨w.heap.size, 0, none⟩ x0).setCell ⟨w.heap.size, 1, none⟩ x1).setCell ⟨w.heap.size, 2, none⟩ x2).setCell ⟨w.heap.size + 1, 0, none⟩ x3) := (((h.setCell (by simp) _).setCell (by simp) _).setCell (by simp) _).setCell (by simp) _
theorem Sy.res {tmps : Array Value} {w W : World} {c : Int} {b : Bool} {sz er : Int} (h : Sy w W c b sz er) (h4 : tmps.getD 4 undef = .pointer (some ⟨w.heap.size, 0, none⟩)) (h5 : tmps.getD 5 undef = .pointer (some ⟨w.heap.size + 1, 0, none⟩)) :
    (results Tryz.f108 tmps).run Tryz.prog W = .ok (.tuple #[.agg #[.int .i32 c, .bool b, .int .i64 sz], .int .i64 er]) W := by
  obtain ⟨⟨p0, p1, p2⟩, p3, _, _⟩ := h.cells
  have h4' : tmps[4]?.getD undef = .pointer (some ⟨w.heap.size, 0, none⟩) := by simpa using h4
  have h5' : tmps[5]?.getD undef = .pointer (some ⟨w.heap.size + 1, 0, none⟩) := by simpa using h5
  simp [results, Tryz.results108, go_sem, h4', h5', p0, p1, p2, p3]
theorem Sy.own {β : Type} {w : World} {c : β → Int} {b : β → Bool} {sz er : β → Int} : Own (fun s W => Sy w W (c s) (b s) (sz s) (er s)) := fun s X Y row hs hg hr => hs.on hg
  (fun e => by obtain ⟨o, ho, hc⟩ := hr _ e.symm; rw [show X.heap[w.heap.size]? = _ from hs.t] at ho; cases ho; cases hc)
  (fun e => by obtain ⟨o, ho, hc⟩ := hr _ e.symm; rw [show X.heap[w.heap.size + 1]? = _ from hs.e] at ho; cases ho; cases hc)
theorem decode_valid (s : ByteArray) (i : Nat) : (Utf8.decode s i).1 ≤ 1114111 ∧ ¬ (55296 ≤ (Utf8.decode s i).1 ∧ (Utf8.decode s i).1 ≤ 57343) := by
  have hb : ∀ k, (s.get! (i + k)).toNat < 256 := fun k => (s.get! (i + k)).toNat_lt
  have h0 := hb 0; have h1 := hb 1; have h2 := hb 2; have h3 := hb 3
  simp only [Utf8.decode]
  repeat' split
  all_goals simp_all [Utf8.runeError, Utf8.valid]
  all_goals omega
theorem cutsN_code (s : ByteArray) : ∀ n i (x : Nat × Int), x ∈ cutsN s n i → ∃ j, x.2 = codeAt s j
  | 0, _, _, h => by cases h
  | n + 1, i, x, h => by
    simp only [cutsN] at h
    split at h
    · rcases List.mem_cons.1 h with rfl | h'
      · exact ⟨i, rfl⟩
      · exact cutsN_code s n _ x h'
    · cases h
theorem cuts_len (s : ByteArray) (x : Nat × Int) (h : x ∈ cuts s) (h0 : 0 ≤ x.2) : 1 ≤ runeLen x.2 ∧ runeLen x.2 ≤ 6 := by
  obtain ⟨j, hj⟩ := cutsN_code s _ _ x h
  have hv := decode_valid s j
  rw [hj] at h0 ⊢
  unfold codeAt at h0 ⊢
  split at h0
  · omega
  · rename_i hn
    rw [if_neg hn]
    unfold runeLen
    repeat' split
    all_goals omega
theorem ko4 (w : World) (a : Addr) (x : Value) (b : Addr) (y : Value) (c : Addr) (z : Value) (d : Addr) (t : Value) : KeepsOthers w ((((w.setCell a x).setCell b y).setCell c z).setCell d t) := (((KeepsOthers.setCell _ _ _).trans (KeepsOthers.setCell _ _ _)).trans (KeepsOthers.setCell _ _ _)).trans (KeepsOthers.setCell _ _ _)
set_option maxRecDepth 100000 in
set_option maxHeartbeats 2000000 in
theorem say108 (s : ByteArray) (p : Nat) (w : World) (hs : s.size ≤ 1048576) (hp : p < s.size) : Calls Tryz.prog 108 #[.string s, .int .i64 p] w (Say s w) := by
  refine (callsIn_wide (n := 5)).1 ?_
  refine callsIn_of_wp_marks Tryz.func108 rfl trivial ?_ rfl
  simp only [Tryz.ntmps108, List.size_toArray, List.length_cons, List.length_nil, Nat.reduceAdd, Nat.reduceSub, Array.replicate_succ, Array.replicate_zero, List.push_toArray, List.append_toArray, List.nil_append, List.cons_append]
  have hS0 := hid (Sy.start w)
  have hB0 := hid (below2 w (.cells #[.int .i32 0, .bool false, .int .i64 0] 135) (.cells #[.int .i64 0] 29))
  by_cases h92 : (s[p]'hp).toNat = 92
  · have hq : (((s[p]'hp).toNat : Int) == 92) = true := by simp; omega
    gi_wp2
    refine ⟨trivial, ?_⟩
    refine (callsIn_wide.2 (escape114 (s.extract p s.size) _ (by simp; omega))).mono ?_
    rintro e w1 ⟨⟨c, b, sz, ok, rfl, hok⟩, hb⟩
    have hS1 := hid (hS0.out.on (grown_of_below hb) (by simp) (by simp))
    have hB1 := hid (hB0.out.trans (hb.mono hB0.out.size))
    obtain ⟨⟨p0, p1, p2⟩, p3, p4, p5⟩ := hS1.out.cells
    have hl1 := hS1.out.t.lt
    have hl2 := hS1.out.e.lt
    have hok' := hid hok
    clear hb hok
    cases ok
    · gi_wp2
      exact ⟨_, ((hS1.out.put 0 false 0 12).on (World.grownBy_alloc _ _ none) (by simp) (by simp)).res rfl rfl, ⟨_, _, _, _, rfl, fun h => by cases h⟩, (Sy.below hB1.out _ _ _ _).alloc (by simp; omega) _⟩
    · gi_wp2
      exact ⟨_, ((hS1.out.put c b sz 0).on (World.grownBy_alloc _ _ none) (by simp) (by simp)).res rfl rfl, ⟨_, _, _, _, rfl, fun _ => by have := hok'.out trivial; omega⟩, (Sy.below hB1.out _ _ _ _).alloc (by simp; omega) _⟩
  · have hq : (((s[p]'hp).toNat : Int) == 92) = false := by simp; omega
    obtain ⟨W0, hW0⟩ : ∃ W0, W0 = ((w.alloc (.cells #[.int .i32 0, .bool false, .int .i64 0] 135)).alloc (.cells #[.int .i64 0] 29)).alloc (.cells #[.string (s.extract p s.size)] 9) := ⟨_, rfl⟩
    have hS1 : Hid (Sy w W0 0 false 0 0) := hid (by rw [hW0]; exact hS0.out.on (World.grownBy_alloc _ _ none) (by simp) (by simp))
    have hB1 : Hid (Below w.heap.size w W0) := hid (by rw [hW0]; exact hB0.out.alloc (by simp; omega) _)
    have hsz : W0.heap.size = w.heap.size + 3 := by rw [hW0]; simp
    have b7 : Boxed W0 (w.heap.size + 1 + 1) 9 (.string (s.extract p s.size)) := by
      rw [hW0]; have := Boxed.new ((w.alloc (.cells #[.int .i32 0, .bool false, .int .i64 0] 135)).alloc (.cells #[.int .i64 0] 29)) 9 (.string (s.extract p s.size)); simpa using this
    gi_wp2
    · exact ⟨_, (Sy.start w 10).res rfl rfl, ⟨_, _, _, _, rfl, fun h => by cases h⟩, below2 _ _ _⟩
    rotate_left
    · exact ⟨_, (Sy.start w 10).res rfl rfl, ⟨_, _, _, _, rfl, fun h => by cases h⟩, below2 _ _ _⟩
    refine ⟨trivial, ?_⟩
    refine (callsIn_wide.2 (cutting74 _ _)).mono ?_
    rintro e w1 ⟨rfl, rfl⟩
    gi_wp2
    rw [← hW0]
    refine wpIn_rangeFunc_ownF (w0 := W0) rfl (by omega) (gf := 96) (lb := #[.pointer (some ⟨w.heap.size + 1 + 1, 0, none⟩)]) rfl trivial (enters_of Tryz.func96 (by kernel_rfl) rfl)
      (cut_stops 4 (by omega) (w.heap.size + 1 + 1) W0.heap.size (s.extract p s.size) (by simp; omega) W0 (by omega) (Nat.le_refl _) b7.cell) Kc.t (Kc.b (Nat.le_refl _)) (Below.refl _ _) (fun _ => rfl)
      (fun pre W => Below W0.heap.size W0 W)
      (fun c pre W => (∃ (q : List (Nat × Int) × (Nat × Int) × Int × Bool × Int × Int), (c = .ret ∧ pre = q.1 ++ [q.2.1] ∧ (q.2.2.2.2.2 = 0 → 0 ≤ q.2.1.2 ∧ q.2.2.2.2.1 = runeLen q.2.1.2)) ∧ Sy w W q.2.2.1 q.2.2.2.1 q.2.2.2.2.1 q.2.2.2.2.2) ∧ Below w.heap.size w W)
      (ownFrom_below (Nat.le_refl _) (Nat.le_refl _))
      (fun c => OwnFrom.and (Own.from (fun s' A B row hs hg hr => by obtain ⟨q, h1, h2⟩ := hs; exact ⟨q, h1, Sy.own (c := fun _ : Unit => q.2.2.1) (b := fun _ => q.2.2.2.1) (sz := fun _ => q.2.2.2.2.1) (er := fun _ => q.2.2.2.2.2) () A B row h2 hg hr⟩) _) (ownFrom_below (Nat.le_refl _) (by first | omega | (rw [← hW0]; omega) | (simp; omega))))
      (Below.refl _ _)
      (fun x => { tmps := #[.string s, .int .i64 p, undef, undef, .pointer (some ⟨w.heap.size, 0, none⟩), .pointer (some ⟨w.heap.size + 1, 0, none⟩), undef, undef, undef, .int .i32 x.2, .string s, .int .i64 p, .int .u8 ((s[p]'hp).toNat : Int), .bool false, undef, undef, undef, undef, undef, undef, undef, undef, undef, undef, undef, .string s, .int .i64 p, .int .u8 ((s[p]'hp).toNat : Int), .bool (decide (((s[p]'hp).toNat : Int) < 32)), .bool (decide (((s[p]'hp).toNat : Int) < 32)), .string s, .int .i64 p, .int .u8 ((s[p]'hp).toNat : Int), .bool false, .bool (decide (((s[p]'hp).toNat : Int) < 32)), undef, .string s, .int .i64 p, .string (s.extract p s.size), .func (.func 96) #[] #[.pointer (some ⟨w.heap.size + 1 + 1, 0, none⟩)], .int .i64 x.1, .int .i32 x.2, undef, undef, undef, undef, undef, undef, undef, undef], defers := [] }) ?assign ?body ?done ?stop
    case assign =>
      intro l x W K hK
      gi_wp2
      exact hK
    case body =>
      rintro l pre x W hB _
      have hS2 := hS1.out.on (grown_of_below hB) (by simp) (by simp)
      obtain ⟨⟨p0, p1, p2⟩, p3, p4, p5⟩ := hS2.cells
      have hS2' := hid hS2
      clear hS2
      have hcall := runelen115 x.2 W
      have hBB := hid (hB1.out.trans (hB.mono (by omega)))
      gi_wp2_with (refine ⟨trivial, ?_⟩; gi_at_call 115; refine (CallsIn.inRound l (callsIn_wide.2 hcall)).mono ?_; rintro e w' ⟨rfl, rfl⟩)
      · exact ⟨ko4 _ _ _ _ _ _ _ _ _, ⟨(pre, x, 0, false, 0, 13), ⟨rfl, rfl, fun h => by simp at h⟩, hS2'.out.put 0 false 0 13⟩, Sy.below hBB.out _ _ _ _⟩
      · exact ⟨ko4 _ _ _ _ _ _ _ _ _, ⟨(pre, x, x.2, false, runeLen x.2, 0), ⟨rfl, rfl, fun h => ⟨by omega, rfl⟩⟩, hS2'.out.put x.2 false (runeLen x.2) 0⟩, Sy.below hBB.out _ _ _ _⟩
    case done =>
      rintro D ys W hD rfl hB hK
      have hS2 := hS1.out.on (grown_of_below hB) (by simp) (by simp)
      obtain ⟨⟨p0, p1, p2⟩, p3, p4, p5⟩ := hS2.cells
      have hS2' := hid hS2
      clear hS2
      have hBB := hid (hB1.out.trans (hB.mono (by omega)))
      gi_wp2
      have hK2 := (ko4 W ⟨w.heap.size, 0, none⟩ (.int .i32 0) ⟨w.heap.size, 1, none⟩ (.bool false) ⟨w.heap.size, 2, none⟩ (.int .i64 0) ⟨w.heap.size + 1, 0, none⟩ (.int .i64 13)).same D _ hK rfl
      refine ⟨by simp, .inl ⟨_, _, rfl, run_takeDeferred hK2, ?_⟩⟩
      exact ⟨_, ((hS2'.out.put 0 false 0 13).on (grownBy_putObj' _ D (.deferred none)) (by simp; omega) (by simp; omega)).res rfl rfl, ⟨_, _, _, _, rfl, fun h => by simp at h⟩, (Sy.below hBB.out _ _ _ _).trans (belowK_b (w := W0) (by omega) _ D _ _ hD hK2 rfl rfl)⟩
    case stop =>
      rintro D c pre W hD hpre ⟨⟨⟨q1, q2, c, b, sz, er⟩, ⟨rfl, rfl, hq0⟩, hSq⟩, hB⟩ hK
      have hSq' := hid hSq
      have hx : q2 ∈ cuts (s.extract p s.size) := by obtain ⟨rest, hr⟩ := hpre; rw [← hr]; simp
      have hq' := hid hq0
      clear hSq hq0
      gi_wp2
      refine ⟨by simp, .inl ⟨_, _, rfl, run_takeDeferred hK, ?_⟩⟩
      exact ⟨_, (hSq'.out.on (grownBy_putObj' _ D (.deferred none)) (by simp; omega) (by simp; omega)).res rfl rfl, ⟨_, _, _, _, rfl, fun h => by obtain ⟨h1, h2⟩ := hq'.out h; rw [h2]; exact cuts_len _ _ hx h1⟩, hB.trans (belowK_b (w := W0) (by omega) _ D _ _ hD hK rfl rfl)⟩

end Go.Proofs.YtecpkadjnecbiaaGreatDoor
