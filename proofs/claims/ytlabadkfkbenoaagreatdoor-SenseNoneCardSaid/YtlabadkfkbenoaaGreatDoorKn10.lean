/- Walks and plain laws, merged: ChkG. No condition. -/
import Derived.Test.YtlabadkfkbenoaaGreatDoorProg
import Derived.Outline
import Derived.Deep.RegionHeld3
import Derived.Test.YtlabadkfkbenoaaGreatDoorKn01
import Derived.Test.YtlabadkfkbenoaaGreatDoorKn09
namespace Go.Proofs.YtlabadkfkbenoaaGreatDoor
open Go.RowKit
set_option linter.unusedVariables false
set_option linter.unusedSimpArgs false
set_option maxRecDepth 100000
section
open Go.Shelf
def SH.Wf (h : SH) : Prop := h.name.size ≤ 1048576 ∧ h.sign.size ≤ 1048576
def Sts.Wf : Sts → Prop
 | .nil => True
 | .cons h x b e r => h.Wf ∧ x.Wf ∧ b.Wf ∧ e.Wf ∧ r.Wf
def Exs.fk : Exs → Int
 | .nil => 0
 | .cons h _ _ => h.kind
def okSH (h : SH) (n : Nat) (fk : Int) (nb ne : Nat) : Bool :=
 if h.kind = 1 then plainS ⟨#[]⟩ 0 h.sign n 1 nb ne && (nameOk h.name && typeB h.type)
 else if h.kind = 2 then plainS ⟨#[]⟩ h.type ⟨#[]⟩ n 1 nb ne && (nameOk h.name && inList setsL h.sign)
 else if h.kind = 3 then plainS ⟨#[]⟩ h.type ⟨#[]⟩ n 2 nb ne && (nameOk h.name && inList setsL h.sign)
 else if h.kind = 4 then plainS h.name h.type h.sign n 1 0 0
 else if h.kind = 5 then plainS h.name h.type h.sign n 1 0 ne
 else if h.kind = 6 then plainS h.name h.type h.sign n 0 nb ne
 else if h.kind = 7 then plainS h.name h.type h.sign n 0 nb ne
 else if h.kind = 8 then plainS h.name h.type h.sign n 1 nb ne
 else if h.kind = 9 then plainS h.name h.type h.sign n 1 nb ne && (fk == 5)
 else false
theorem okSH_1 (a0 : Int) (a2 : ByteArray) (a3 : Int) (a4 : ByteArray) (n : Nat) (fk : Int) (nb ne : Nat) : okSH ⟨a0, 1, a2, a3, a4⟩ n fk nb ne = (plainS ⟨#[]⟩ 0 a4 n 1 nb ne && (nameOk a2 && typeB a3)) := rfl
theorem okSH_2 (a0 : Int) (a2 : ByteArray) (a3 : Int) (a4 : ByteArray) (n : Nat) (fk : Int) (nb ne : Nat) : okSH ⟨a0, 2, a2, a3, a4⟩ n fk nb ne = (plainS ⟨#[]⟩ a3 ⟨#[]⟩ n 1 nb ne && (nameOk a2 && inList setsL a4)) := rfl
theorem okSH_3 (a0 : Int) (a2 : ByteArray) (a3 : Int) (a4 : ByteArray) (n : Nat) (fk : Int) (nb ne : Nat) : okSH ⟨a0, 3, a2, a3, a4⟩ n fk nb ne = (plainS ⟨#[]⟩ a3 ⟨#[]⟩ n 2 nb ne && (nameOk a2 && inList setsL a4)) := rfl
theorem okSH_4 (a0 : Int) (a2 : ByteArray) (a3 : Int) (a4 : ByteArray) (n : Nat) (fk : Int) (nb ne : Nat) : okSH ⟨a0, 4, a2, a3, a4⟩ n fk nb ne = plainS a2 a3 a4 n 1 0 0 := rfl
theorem okSH_5 (a0 : Int) (a2 : ByteArray) (a3 : Int) (a4 : ByteArray) (n : Nat) (fk : Int) (nb ne : Nat) : okSH ⟨a0, 5, a2, a3, a4⟩ n fk nb ne = plainS a2 a3 a4 n 1 0 ne := rfl
theorem okSH_6 (a0 : Int) (a2 : ByteArray) (a3 : Int) (a4 : ByteArray) (n : Nat) (fk : Int) (nb ne : Nat) : okSH ⟨a0, 6, a2, a3, a4⟩ n fk nb ne = plainS a2 a3 a4 n 0 nb ne := rfl
theorem okSH_7 (a0 : Int) (a2 : ByteArray) (a3 : Int) (a4 : ByteArray) (n : Nat) (fk : Int) (nb ne : Nat) : okSH ⟨a0, 7, a2, a3, a4⟩ n fk nb ne = plainS a2 a3 a4 n 0 nb ne := rfl
theorem okSH_8 (a0 : Int) (a2 : ByteArray) (a3 : Int) (a4 : ByteArray) (n : Nat) (fk : Int) (nb ne : Nat) : okSH ⟨a0, 8, a2, a3, a4⟩ n fk nb ne = plainS a2 a3 a4 n 1 nb ne := rfl
theorem okSH_9 (a0 : Int) (a2 : ByteArray) (a3 : Int) (a4 : ByteArray) (n : Nat) (fk : Int) (nb ne : Nat) : okSH ⟨a0, 9, a2, a3, a4⟩ n fk nb ne = (plainS a2 a3 a4 n 1 nb ne && (fk == 5)) := rfl
theorem okSH_0 (a0 a1 : Int) (a2 : ByteArray) (a3 : Int) (a4 : ByteArray) (n : Nat) (fk : Int) (nb ne : Nat) (h : ¬ a1 = 1 ∧ ¬ a1 = 2 ∧ ¬ a1 = 3 ∧ ¬ a1 = 4 ∧ ¬ a1 = 5 ∧ ¬ a1 = 6 ∧ ¬ a1 = 7 ∧ ¬ a1 = 8 ∧ ¬ a1 = 9) : okSH ⟨a0, a1, a2, a3, a4⟩ n fk nb ne = false := by
 obtain ⟨h1, h2, h3, h4, h5, h6, h7, h8, h9⟩ := h
 simp only [okSH, h1, h2, h3, h4, h5, h6, h7, h8, h9, if_false]
theorem sets_in (w : World) : ∀ i (hi : i < setsL.length), (w.alloc (.cells (setsL.map Value.string).toArray 9)).cell? ⟨w.heap.size, i, none⟩ = some (.string setsL[i]) := fun i hi => cell_bx (Bx.new w _ 9) i hi
theorem plain58' (a0 a1 : Int) (a2 : ByteArray) (a3 : Int) (a4 : ByteArray) (xa ba ea : Option Addr) (n xc nb bc ne ec k : Nat) (w : World) (x : Bool) (hx : plainS a2 a3 a4 n k nb ne = x) :
  Calls Tryz.prog 206 #[.agg #[.int .i64 a0, .int .u8 a1, .string a2, .int .u8 a3, .string a4, .slice xa n xc, .slice ba nb bc, .slice ea ne ec], .int .i64 k] w fun e w' => e = .returned (.bool x) ∧ Below w.heap.size w w' := by
 subst hx
 exact plain58 a0 a1 a2 a3 a4 xa ba ea n xc nb bc ne ec k w
structure S44 (w : World) (q q2 : Nat) (box own : Array Value) (w' : World) : Prop where
 box : Bx w' q box 109
 own : Bx w' q2 own 109
 below : Below w.heap.size w w'
theorem S44.on {w w1 w2 : World} {q q2 : Nat} {box own : Array Value} (h : S44 w q q2 box own w1) (hb : Below w1.heap.size w1 w2) : S44 w q q2 box own w2 :=
 ⟨h.box.on (grown_of_below hb) (by simp), h.own.on (grown_of_below hb) (by simp), h.below.trans (hb.mono h.below.size)⟩
theorem S44.same {w w1 w2 : World} {q q2 : Nat} {box own : Array Value} (h : S44 w q q2 box own w1) (hb : w2 = w1) : S44 w q q2 box own w2 := by rw [hb]; exact h
theorem S44.alloc' {w w1 w2 : World} {q q2 : Nat} {box own : Array Value} (h : S44 w q q2 box own w1) {o : Obj} (hb : w2 = w1.alloc o) : S44 w q q2 box own w2 := by
 rw [hb]
 exact h.on ((Below.refl _ _).alloc (Nat.le_refl _) _)
theorem S44.drew {w w1 : World} {q q2 : Nat} {box own : Array Value} (h : S44 w q q2 box own w1) : S44 w q q2 box own w1.drew := h.on (Below.refl _ _).drew
theorem S44.start {w : World} {box : Array Value} (h1 : Bx (w.alloc (.cells box 109)) w.heap.size box 109) (h2 : Below w.heap.size w (w.alloc (.cells box 109))) (own' : Array Value) : S44 w w.heap.size (w.heap.size + 1) box own' ((w.alloc (.cells box 109)).alloc (.cells own' 109)) :=
 ⟨h1.on (World.grownBy_alloc _ _ none) (by simp), by have := Bx.new (w.alloc (.cells box 109)) own' 109; simpa using this, h2.alloc h2.size _⟩
theorem isName29' (s : ByteArray) (w : World) (hs : s.size ≤ 1048576) (x : Bool) (hx : nameOk s = x) : Calls Tryz.prog 134 #[.string s] w fun e w' => e = .returned (.bool x) ∧ Below w.heap.size w w' := by
 subst hx
 exact isName29 s w hs
theorem sets60' (w : World) : Calls Tryz.prog 208 #[] w fun e w' => e = .returned (.slice (some ⟨w.heap.size, 0, none⟩) 11 11) ∧ w' = w.alloc (.cells (setsL.map Value.string).toArray 9) := sets60 w
theorem sets_of {w w' : World} (h : w' = w.alloc (.cells (setsL.map Value.string).toArray 9)) : ∀ i (hi : i < setsL.length), w'.cell? ⟨w.heap.size, i, none⟩ = some (.string setsL[i]) := by
 rw [h]
 exact sets_in w
theorem contains59' (L : List ByteArray) (B : Nat) (x : ByteArray) (w : World) (hn : L.length ≤ 1000) (h : ∀ i (hi : i < L.length), w.cell? ⟨B, i, none⟩ = some (.string L[i])) :
  Calls Tryz.prog 207 #[.slice (some ⟨B, 0, none⟩) L.length L.length, .string x] w fun e w' => e = .returned (.bool (inList L x)) ∧ w' = w := contains59 L B x w hn h
set_option maxHeartbeats 8000000 in
theorem fits44 (t a1 : Int) (a2 : ByteArray) (a3 : Int) (a4 : ByteArray) (xa ba ea : Option Addr) (n xc nb bc ne ec : Nat) (fk : Int) (w : World) (hwf : a2.size ≤ 1048576 ∧ a4.size ≤ 1048576) (hfk : n = 0 ∨ ∃ b o, xa = some ⟨b, o, none⟩ ∧ w.cell? ⟨b, o + 1, none⟩ = some (.int .u8 fk)) (hn : n ≤ 100000000) :
  Calls Tryz.prog 167 #[aggS t ⟨t, a1, a2, a3, a4⟩ (.slice xa n xc) (.slice ba nb bc) (.slice ea ne ec)] w fun e w' => e = .returned (.bool (okSH ⟨t, a1, a2, a3, a4⟩ n fk nb ne)) ∧ Below w.heap.size w w' := by
 have hX := hid (And.intro (Bx.new w #[.int .i64 t, .int .u8 a1, .string a2, .int .u8 a3, .string a4, .slice xa n xc, .slice ba nb bc, .slice ea ne ec] 109) ((Below.refl w.heap.size w).alloc (Nat.le_refl _) (.cells #[.int .i64 t, .int .u8 a1, .string a2, .int .u8 a3, .string a4, .slice xa n xc, .slice ba nb bc, .slice ea ne ec] 109)))
 have hW := hid hwf
 have hF := hid hfk
 clear hwf hfk
 go_enter Tryz.func167, Tryz.ntmps167
 by_cases h1 : a1 = 1
 ·subst h1
  go_wp2_with fail
  refine (plain58 t 1 ⟨#[]⟩ 0 a4 xa ba ea n xc nb bc ne ec 1 _).mono ?_
  rintro e w2 ⟨rfl, hb2⟩
  have hX2 := hid (bx_own hX.out.1 hb2)
  have hB2 := hid (below_own hX.out.2 hb2)
  clear hb2
  have p2 := hX2.out.cell 2
  have p3 := hX2.out.cell 3
  have p4 := hX2.out.cell 4
  have p5 := hX2.out.cell 5
  have pl := hX2.out.lt
  simp at p2 p3 p4 p5
  cases hp : plainS ⟨#[]⟩ 0 a4 n 1 nb ne
  ·go_wp2_with fail
   go_ret
   exact ⟨ret_bool (by simp only [okSH_1, hp, Bool.true_and, Bool.false_and]), hB2.out⟩
  have hcf := hid (isName29 a2 w2 hW.out.1)
  go_wp2_with fail
  refine hcf.out.mono ?_
  rintro e w3 ⟨rfl, hb3⟩
  have hB3 := hid (hB2.out.trans (hb3.mono hB2.out.size))
  have hX3 := hid (hX2.out.on (grown_of_below hb3) (by simp))
  have pq := hX3.out.cell 3
  simp at pq
  clear hb3 p2 p3 p4 p5 pl hcf
  cases hno : nameOk a2
  ·go_wp2_with fail
   go_ret
   exact ⟨ret_bool (by simp only [okSH_1, hp, hno, Bool.true_and, Bool.false_and]), hB3.out⟩
  have hcf := hid (isType30 a3 w3)
  go_wp2_with fail
  refine hcf.out.mono ?_
  rintro e w4 ⟨rfl, hw⟩
  subst w4
  go_wp2_with fail
  go_ret
  exact ⟨ret_bool (by simp only [okSH_1, hp, hno, Bool.true_and, Bool.false_and]), hB3.out⟩
 by_cases h2 : a1 = 2
 ·subst h2
  cases hp : plainS ⟨#[]⟩ a3 ⟨#[]⟩ n 1 nb ne
  ·go_wp2_with fail
   have hS0 : Hid (S44 w w.heap.size (w.heap.size + 1) #[.int .i64 t, .int .u8 2, .string a2, .int .u8 a3, .string a4, .slice xa n xc, .slice ba nb bc, .slice ea ne ec] #[.int .i64 t, .int .u8 2, .string ⟨#[]⟩, .int .u8 a3, .string ⟨#[]⟩, .slice xa n xc, .slice ba nb bc, .slice ea ne ec] _) := hid (S44.start hX.out.1 hX.out.2 #[.int .i64 t, .int .u8 2, .string ⟨#[]⟩, .int .u8 a3, .string ⟨#[]⟩, .slice xa n xc, .slice ba nb bc, .slice ea ne ec])
   have hX := hX
   clear hF
   refine wp_region_held_drew (S := (S44 w w.heap.size (w.heap.size + 1) #[.int .i64 t, .int .u8 2, .string a2, .int .u8 a3, .string a4, .slice xa n xc, .slice ba nb bc, .slice ea ne ec] #[.int .i64 t, .int .u8 2, .string ⟨#[]⟩, .int .u8 a3, .string ⟨#[]⟩, .slice xa n xc, .slice ba nb bc, .slice ea ne ec])) (by kernel_rfl) hS0.out.drew (fun hHeld => ?_)
   refine tk 0 ?_ (hy := ?_) (h := ?_)
   rotate_left
   ·intro w' hSw; have c0 := hSw.own.cell 0; have c1 := hSw.own.cell 1; have c2 := hSw.own.cell 2; have c3 := hSw.own.cell 3; have c4 := hSw.own.cell 4; have c5 := hSw.own.cell 5; have c6 := hSw.own.cell 6; have c7 := hSw.own.cell 7; simp at c0 c1 c2 c3 c4 c5 c6 c7; go_simp; (try with_reducible rfl)
   try simp only [tpa, tpb, tpc, tpd, tpe]
   refine tk 1 ?_ (hy := ?_) (h := ?_)
   rotate_left
   ·intro w' hSw; go_simp; (try with_reducible rfl)
   try simp only [tpa, tpb, tpc, tpd, tpe]
   refine tr 2 (h := fun K hK => ?_)
   go_simp
   go_at_call 206
   refine (plain58' t 2 ⟨#[]⟩ a3 ⟨#[]⟩ xa ba ea n xc nb bc ne ec 1 _ false hp).mono ?_
   rintro e w2 ⟨rfl, hb2⟩
   have hk := hHeld.on hb2
   clear hHeld
   go_wp2_with fail
   refine hK.out _ _ hk (fun hHeld => ?_)
   clear hK K hk
   try simp only [tpa, tpb, tpc, tpd, tpe]
   refine tk 3 ?_ (hy := ?_) (h := ?_)
   rotate_left
   ·intro w' hSw; go_simp; (try with_reducible rfl)
   try simp only [tpa, tpb, tpc, tpd, tpe]
   refine tn 4 (h := ?_)
   try simp only [tpa, tpb, tpc, tpd, tpe]
   refine tn 5 (h := ?_)
   try simp only [tpa, tpb, tpc, tpd, tpe]
   refine tn 6 (h := ?_)
   try simp only [tpa, tpb, tpc, tpd, tpe]
   refine tk 7 ?_ (hy := ?_) (h := ?_)
   rotate_left
   ·intro w' hSw; go_simp; (try with_reducible rfl)
   try simp only [tpa, tpb, tpc, tpd, tpe]
   refine tk 8 ?_ (hy := ?_) (h := ?_)
   rotate_left
   ·intro w' hSw; go_simp; (try with_reducible rfl)
   try simp only [tpa, tpb, tpc, tpd, tpe]
   refine tn 9 (h := ?_)
   try simp only [tpa, tpb, tpc, tpd, tpe]
   refine tn 10 (h := ?_)
   try simp only [tpa, tpb, tpc, tpd, tpe]
   refine tn 11 (h := ?_)
   try simp only [tpa, tpb, tpc, tpd, tpe]
   refine tn 12 (h := ?_)
   try simp only [tpa, tpb, tpc, tpd, tpe]
   refine tk 13 ?_ (hy := ?_) (h := ?_)
   rotate_left
   ·intro w' hSw; go_simp; (try with_reducible rfl)
   try simp only [tpa, tpb, tpc, tpd, tpe]
   refine tk 14 ?_ (hy := ?_) (h := ?_)
   rotate_left
   ·intro w' hSw; go_simp; (try with_reducible rfl)
   try simp only [tpa, tpb, tpc, tpd, tpe]
   refine wpAnyH_done (by kernel_rfl) ?_ _
   have hb9 := hid hHeld.below
   clear hHeld
   go_wp2_with fail
   go_ret
   exact ⟨ret_bool (by simp only [okSH_2, hp, Bool.true_and, Bool.false_and]), hb9.out⟩
  cases hno : nameOk a2
  ·go_wp2_with fail
   have hS0 : Hid (S44 w w.heap.size (w.heap.size + 1) #[.int .i64 t, .int .u8 2, .string a2, .int .u8 a3, .string a4, .slice xa n xc, .slice ba nb bc, .slice ea ne ec] #[.int .i64 t, .int .u8 2, .string ⟨#[]⟩, .int .u8 a3, .string ⟨#[]⟩, .slice xa n xc, .slice ba nb bc, .slice ea ne ec] _) := hid (S44.start hX.out.1 hX.out.2 #[.int .i64 t, .int .u8 2, .string ⟨#[]⟩, .int .u8 a3, .string ⟨#[]⟩, .slice xa n xc, .slice ba nb bc, .slice ea ne ec])
   have hX := hX
   clear hF
   refine wp_region_held_drew (S := (S44 w w.heap.size (w.heap.size + 1) #[.int .i64 t, .int .u8 2, .string a2, .int .u8 a3, .string a4, .slice xa n xc, .slice ba nb bc, .slice ea ne ec] #[.int .i64 t, .int .u8 2, .string ⟨#[]⟩, .int .u8 a3, .string ⟨#[]⟩, .slice xa n xc, .slice ba nb bc, .slice ea ne ec])) (by kernel_rfl) hS0.out.drew (fun hHeld => ?_)
   refine tk 0 ?_ (hy := ?_) (h := ?_)
   rotate_left
   ·intro w' hSw; have c0 := hSw.own.cell 0; have c1 := hSw.own.cell 1; have c2 := hSw.own.cell 2; have c3 := hSw.own.cell 3; have c4 := hSw.own.cell 4; have c5 := hSw.own.cell 5; have c6 := hSw.own.cell 6; have c7 := hSw.own.cell 7; simp at c0 c1 c2 c3 c4 c5 c6 c7; go_simp; (try with_reducible rfl)
   try simp only [tpa, tpb, tpc, tpd, tpe]
   refine tk 1 ?_ (hy := ?_) (h := ?_)
   rotate_left
   ·intro w' hSw; go_simp; (try with_reducible rfl)
   try simp only [tpa, tpb, tpc, tpd, tpe]
   refine tr 2 (h := fun K hK => ?_)
   go_simp
   go_at_call 206
   refine (plain58' t 2 ⟨#[]⟩ a3 ⟨#[]⟩ xa ba ea n xc nb bc ne ec 1 _ true hp).mono ?_
   rintro e w2 ⟨rfl, hb2⟩
   have hk := hHeld.on hb2
   clear hHeld
   go_wp2_with fail
   refine hK.out _ _ hk (fun hHeld => ?_)
   clear hK K hk
   try simp only [tpa, tpb, tpc, tpd, tpe]
   refine tk 3 ?_ (hy := ?_) (h := ?_)
   rotate_left
   ·intro w' hSw; go_simp; (try with_reducible rfl)
   try simp only [tpa, tpb, tpc, tpd, tpe]
   refine tk 4 ?_ (hy := ?_) (h := ?_)
   rotate_left
   ·intro w' hSw; go_simp; (try with_reducible rfl)
   try simp only [tpa, tpb, tpc, tpd, tpe]
   refine tk 5 ?_ (hy := ?_) (h := ?_)
   rotate_left
   ·intro w' hSw; have c2 := hSw.box.cell 2; have c4 := hSw.box.cell 4; simp at c2 c4; go_simp; (try with_reducible rfl)
   try simp only [tpa, tpb, tpc, tpd, tpe]
   refine tr 6 (h := fun K hK => ?_)
   go_simp
   go_at_call 134
   refine (isName29' a2 _ hW.out.1 false hno).mono ?_
   rintro e w2 ⟨rfl, hb2⟩
   have hk := hHeld.on hb2
   clear hHeld
   go_wp2_with fail
   refine hK.out _ _ hk (fun hHeld => ?_)
   clear hK K hk
   try simp only [tpa, tpb, tpc, tpd, tpe]
   refine tk 7 ?_ (hy := ?_) (h := ?_)
   rotate_left
   ·intro w' hSw; go_simp; (try with_reducible rfl)
   try simp only [tpa, tpb, tpc, tpd, tpe]
   refine tk 8 ?_ (hy := ?_) (h := ?_)
   rotate_left
   ·intro w' hSw; go_simp; (try with_reducible rfl)
   try simp only [tpa, tpb, tpc, tpd, tpe]
   refine tn 9 (h := ?_)
   try simp only [tpa, tpb, tpc, tpd, tpe]
   refine tn 10 (h := ?_)
   try simp only [tpa, tpb, tpc, tpd, tpe]
   refine tn 11 (h := ?_)
   try simp only [tpa, tpb, tpc, tpd, tpe]
   refine tn 12 (h := ?_)
   try simp only [tpa, tpb, tpc, tpd, tpe]
   refine tk 13 ?_ (hy := ?_) (h := ?_)
   rotate_left
   ·intro w' hSw; go_simp; (try with_reducible rfl)
   try simp only [tpa, tpb, tpc, tpd, tpe]
   refine tk 14 ?_ (hy := ?_) (h := ?_)
   rotate_left
   ·intro w' hSw; go_simp; (try with_reducible rfl)
   try simp only [tpa, tpb, tpc, tpd, tpe]
   refine wpAnyH_done (by kernel_rfl) ?_ _
   have hb9 := hid hHeld.below
   clear hHeld
   go_wp2_with fail
   go_ret
   exact ⟨ret_bool (by simp only [okSH_2, hp, hno, Bool.true_and, Bool.false_and]), hb9.out⟩
  go_wp2_with fail
  have hS0 : Hid (S44 w w.heap.size (w.heap.size + 1) #[.int .i64 t, .int .u8 2, .string a2, .int .u8 a3, .string a4, .slice xa n xc, .slice ba nb bc, .slice ea ne ec] #[.int .i64 t, .int .u8 2, .string ⟨#[]⟩, .int .u8 a3, .string ⟨#[]⟩, .slice xa n xc, .slice ba nb bc, .slice ea ne ec] _) := hid (S44.start hX.out.1 hX.out.2 #[.int .i64 t, .int .u8 2, .string ⟨#[]⟩, .int .u8 a3, .string ⟨#[]⟩, .slice xa n xc, .slice ba nb bc, .slice ea ne ec])
  have hX := hX
  clear hF
  refine wp_region_held_drew (S := (S44 w w.heap.size (w.heap.size + 1) #[.int .i64 t, .int .u8 2, .string a2, .int .u8 a3, .string a4, .slice xa n xc, .slice ba nb bc, .slice ea ne ec] #[.int .i64 t, .int .u8 2, .string ⟨#[]⟩, .int .u8 a3, .string ⟨#[]⟩, .slice xa n xc, .slice ba nb bc, .slice ea ne ec])) (by kernel_rfl) hS0.out.drew (fun hHeld => ?_)
  refine tk 0 ?_ (hy := ?_) (h := ?_)
  rotate_left
  ·intro w' hSw; have c0 := hSw.own.cell 0; have c1 := hSw.own.cell 1; have c2 := hSw.own.cell 2; have c3 := hSw.own.cell 3; have c4 := hSw.own.cell 4; have c5 := hSw.own.cell 5; have c6 := hSw.own.cell 6; have c7 := hSw.own.cell 7; simp at c0 c1 c2 c3 c4 c5 c6 c7; go_simp; (try with_reducible rfl)
  try simp only [tpa, tpb, tpc, tpd, tpe]
  refine tk 1 ?_ (hy := ?_) (h := ?_)
  rotate_left
  ·intro w' hSw; go_simp; (try with_reducible rfl)
  try simp only [tpa, tpb, tpc, tpd, tpe]
  refine tr 2 (h := fun K hK => ?_)
  go_simp
  go_at_call 206
  refine (plain58' t 2 ⟨#[]⟩ a3 ⟨#[]⟩ xa ba ea n xc nb bc ne ec 1 _ true hp).mono ?_
  rintro e w2 ⟨rfl, hb2⟩
  have hk := hHeld.on hb2
  clear hHeld
  go_wp2_with fail
  refine hK.out _ _ hk (fun hHeld => ?_)
  clear hK K hk
  try simp only [tpa, tpb, tpc, tpd, tpe]
  refine tk 3 ?_ (hy := ?_) (h := ?_)
  rotate_left
  ·intro w' hSw; go_simp; (try with_reducible rfl)
  try simp only [tpa, tpb, tpc, tpd, tpe]
  refine tk 4 ?_ (hy := ?_) (h := ?_)
  rotate_left
  ·intro w' hSw; go_simp; (try with_reducible rfl)
  try simp only [tpa, tpb, tpc, tpd, tpe]
  refine tk 5 ?_ (hy := ?_) (h := ?_)
  rotate_left
  ·intro w' hSw; have c2 := hSw.box.cell 2; have c4 := hSw.box.cell 4; simp at c2 c4; go_simp; (try with_reducible rfl)
  try simp only [tpa, tpb, tpc, tpd, tpe]
  refine tr 6 (h := fun K hK => ?_)
  go_simp
  go_at_call 134
  refine (isName29' a2 _ hW.out.1 true hno).mono ?_
  rintro e w2 ⟨rfl, hb2⟩
  have hk := hHeld.on hb2
  clear hHeld
  go_wp2_with fail
  refine hK.out _ _ hk (fun hHeld => ?_)
  clear hK K hk
  try simp only [tpa, tpb, tpc, tpd, tpe]
  refine tk 7 ?_ (hy := ?_) (h := ?_)
  rotate_left
  ·intro w' hSw; go_simp; (try with_reducible rfl)
  try simp only [tpa, tpb, tpc, tpd, tpe]
  refine tk 8 ?_ (hy := ?_) (h := ?_)
  rotate_left
  ·intro w' hSw; go_simp; (try with_reducible rfl)
  try simp only [tpa, tpb, tpc, tpd, tpe]
  refine tk 10 ?_ (hy := ?_) (h := ?_)
  rotate_left
  ·intro w' hSw; go_simp; (try with_reducible rfl)
  try simp only [tpa, tpb, tpc, tpd, tpe]
  refine tk 11 ?_ (hy := ?_) (h := ?_)
  rotate_left
  ·intro w' hSw; have c2 := hSw.box.cell 2; have c4 := hSw.box.cell 4; simp at c2 c4; go_simp; (try with_reducible rfl)
  try simp only [tpa, tpb, tpc, tpd, tpe]
  refine tr 9 (h := fun K hK => ?_)
  go_simp
  go_at_call 208
  refine (sets60' _).mono ?_
  rintro e w2 ⟨rfl, hw2⟩
  have hk := hHeld.alloc' hw2
  have hsets := hid (sets_of hw2)
  clear hw2
  clear hHeld
  go_wp2_with fail
  refine hK.out _ _ hk (fun hHeld => ?_)
  clear hK K hk
  try simp only [tpa, tpb, tpc, tpd, tpe]
  refine tr 12 (h := fun K hK => ?_)
  go_simp
  go_at_call 207
  refine (contains59' setsL _ a4 _ (by decide) hsets.out).mono ?_
  rintro e w2 ⟨rfl, hw2⟩
  have hk := hHeld.same hw2
  subst hw2
  clear hHeld
  go_wp2_with fail
  refine hK.out _ _ hk (fun hHeld => ?_)
  clear hK K hk
  try simp only [tpa, tpb, tpc, tpd, tpe]
  refine tk 13 ?_ (hy := ?_) (h := ?_)
  rotate_left
  ·intro w' hSw; go_simp; (try with_reducible rfl)
  try simp only [tpa, tpb, tpc, tpd, tpe]
  refine tk 14 ?_ (hy := ?_) (h := ?_)
  rotate_left
  ·intro w' hSw; go_simp; (try with_reducible rfl)
  try simp only [tpa, tpb, tpc, tpd, tpe]
  refine wpAnyH_done (by kernel_rfl) ?_ _
  have hb9 := hid hHeld.below
  clear hHeld
  go_wp2_with fail
  go_ret
  exact ⟨ret_bool (by simp only [okSH_2, hp, hno, Bool.true_and, Bool.false_and]), hb9.out⟩
 by_cases h3 : a1 = 3
 ·subst h3
  cases hp : plainS ⟨#[]⟩ a3 ⟨#[]⟩ n 2 nb ne
  ·go_wp2_with fail
   have hS0 : Hid (S44 w w.heap.size (w.heap.size + 1) #[.int .i64 t, .int .u8 3, .string a2, .int .u8 a3, .string a4, .slice xa n xc, .slice ba nb bc, .slice ea ne ec] #[.int .i64 t, .int .u8 3, .string ⟨#[]⟩, .int .u8 a3, .string ⟨#[]⟩, .slice xa n xc, .slice ba nb bc, .slice ea ne ec] _) := hid (S44.start hX.out.1 hX.out.2 #[.int .i64 t, .int .u8 3, .string ⟨#[]⟩, .int .u8 a3, .string ⟨#[]⟩, .slice xa n xc, .slice ba nb bc, .slice ea ne ec])
   have hX := hX
   clear hF
   refine wp_region_held_drew (S := (S44 w w.heap.size (w.heap.size + 1) #[.int .i64 t, .int .u8 3, .string a2, .int .u8 a3, .string a4, .slice xa n xc, .slice ba nb bc, .slice ea ne ec] #[.int .i64 t, .int .u8 3, .string ⟨#[]⟩, .int .u8 a3, .string ⟨#[]⟩, .slice xa n xc, .slice ba nb bc, .slice ea ne ec])) (by kernel_rfl) hS0.out.drew (fun hHeld => ?_)
   refine tk 0 ?_ (hy := ?_) (h := ?_)
   rotate_left
   ·intro w' hSw; have c0 := hSw.own.cell 0; have c1 := hSw.own.cell 1; have c2 := hSw.own.cell 2; have c3 := hSw.own.cell 3; have c4 := hSw.own.cell 4; have c5 := hSw.own.cell 5; have c6 := hSw.own.cell 6; have c7 := hSw.own.cell 7; simp at c0 c1 c2 c3 c4 c5 c6 c7; go_simp; (try with_reducible rfl)
   try simp only [tpa, tpb, tpc, tpd, tpe]
   refine tk 1 ?_ (hy := ?_) (h := ?_)
   rotate_left
   ·intro w' hSw; go_simp; (try with_reducible rfl)
   try simp only [tpa, tpb, tpc, tpd, tpe]
   refine tr 2 (h := fun K hK => ?_)
   go_simp
   go_at_call 206
   refine (plain58' t 3 ⟨#[]⟩ a3 ⟨#[]⟩ xa ba ea n xc nb bc ne ec 2 _ false hp).mono ?_
   rintro e w2 ⟨rfl, hb2⟩
   have hk := hHeld.on hb2
   clear hHeld
   go_wp2_with fail
   refine hK.out _ _ hk (fun hHeld => ?_)
   clear hK K hk
   try simp only [tpa, tpb, tpc, tpd, tpe]
   refine tk 3 ?_ (hy := ?_) (h := ?_)
   rotate_left
   ·intro w' hSw; go_simp; (try with_reducible rfl)
   try simp only [tpa, tpb, tpc, tpd, tpe]
   refine tn 4 (h := ?_)
   try simp only [tpa, tpb, tpc, tpd, tpe]
   refine tn 5 (h := ?_)
   try simp only [tpa, tpb, tpc, tpd, tpe]
   refine tn 6 (h := ?_)
   try simp only [tpa, tpb, tpc, tpd, tpe]
   refine tk 7 ?_ (hy := ?_) (h := ?_)
   rotate_left
   ·intro w' hSw; go_simp; (try with_reducible rfl)
   try simp only [tpa, tpb, tpc, tpd, tpe]
   refine tk 8 ?_ (hy := ?_) (h := ?_)
   rotate_left
   ·intro w' hSw; go_simp; (try with_reducible rfl)
   try simp only [tpa, tpb, tpc, tpd, tpe]
   refine tn 9 (h := ?_)
   try simp only [tpa, tpb, tpc, tpd, tpe]
   refine tn 10 (h := ?_)
   try simp only [tpa, tpb, tpc, tpd, tpe]
   refine tn 11 (h := ?_)
   try simp only [tpa, tpb, tpc, tpd, tpe]
   refine tn 12 (h := ?_)
   try simp only [tpa, tpb, tpc, tpd, tpe]
   refine tk 13 ?_ (hy := ?_) (h := ?_)
   rotate_left
   ·intro w' hSw; go_simp; (try with_reducible rfl)
   try simp only [tpa, tpb, tpc, tpd, tpe]
   refine tk 14 ?_ (hy := ?_) (h := ?_)
   rotate_left
   ·intro w' hSw; go_simp; (try with_reducible rfl)
   try simp only [tpa, tpb, tpc, tpd, tpe]
   refine wpAnyH_done (by kernel_rfl) ?_ _
   have hb9 := hid hHeld.below
   clear hHeld
   go_wp2_with fail
   go_ret
   exact ⟨ret_bool (by simp only [okSH_3, hp, Bool.true_and, Bool.false_and]), hb9.out⟩
  cases hno : nameOk a2
  ·go_wp2_with fail
   have hS0 : Hid (S44 w w.heap.size (w.heap.size + 1) #[.int .i64 t, .int .u8 3, .string a2, .int .u8 a3, .string a4, .slice xa n xc, .slice ba nb bc, .slice ea ne ec] #[.int .i64 t, .int .u8 3, .string ⟨#[]⟩, .int .u8 a3, .string ⟨#[]⟩, .slice xa n xc, .slice ba nb bc, .slice ea ne ec] _) := hid (S44.start hX.out.1 hX.out.2 #[.int .i64 t, .int .u8 3, .string ⟨#[]⟩, .int .u8 a3, .string ⟨#[]⟩, .slice xa n xc, .slice ba nb bc, .slice ea ne ec])
   have hX := hX
   clear hF
   refine wp_region_held_drew (S := (S44 w w.heap.size (w.heap.size + 1) #[.int .i64 t, .int .u8 3, .string a2, .int .u8 a3, .string a4, .slice xa n xc, .slice ba nb bc, .slice ea ne ec] #[.int .i64 t, .int .u8 3, .string ⟨#[]⟩, .int .u8 a3, .string ⟨#[]⟩, .slice xa n xc, .slice ba nb bc, .slice ea ne ec])) (by kernel_rfl) hS0.out.drew (fun hHeld => ?_)
   refine tk 0 ?_ (hy := ?_) (h := ?_)
   rotate_left
   ·intro w' hSw; have c0 := hSw.own.cell 0; have c1 := hSw.own.cell 1; have c2 := hSw.own.cell 2; have c3 := hSw.own.cell 3; have c4 := hSw.own.cell 4; have c5 := hSw.own.cell 5; have c6 := hSw.own.cell 6; have c7 := hSw.own.cell 7; simp at c0 c1 c2 c3 c4 c5 c6 c7; go_simp; (try with_reducible rfl)
   try simp only [tpa, tpb, tpc, tpd, tpe]
   refine tk 1 ?_ (hy := ?_) (h := ?_)
   rotate_left
   ·intro w' hSw; go_simp; (try with_reducible rfl)
   try simp only [tpa, tpb, tpc, tpd, tpe]
   refine tr 2 (h := fun K hK => ?_)
   go_simp
   go_at_call 206
   refine (plain58' t 3 ⟨#[]⟩ a3 ⟨#[]⟩ xa ba ea n xc nb bc ne ec 2 _ true hp).mono ?_
   rintro e w2 ⟨rfl, hb2⟩
   have hk := hHeld.on hb2
   clear hHeld
   go_wp2_with fail
   refine hK.out _ _ hk (fun hHeld => ?_)
   clear hK K hk
   try simp only [tpa, tpb, tpc, tpd, tpe]
   refine tk 3 ?_ (hy := ?_) (h := ?_)
   rotate_left
   ·intro w' hSw; go_simp; (try with_reducible rfl)
   try simp only [tpa, tpb, tpc, tpd, tpe]
   refine tk 4 ?_ (hy := ?_) (h := ?_)
   rotate_left
   ·intro w' hSw; go_simp; (try with_reducible rfl)
   try simp only [tpa, tpb, tpc, tpd, tpe]
   refine tk 5 ?_ (hy := ?_) (h := ?_)
   rotate_left
   ·intro w' hSw; have c2 := hSw.box.cell 2; have c4 := hSw.box.cell 4; simp at c2 c4; go_simp; (try with_reducible rfl)
   try simp only [tpa, tpb, tpc, tpd, tpe]
   refine tr 6 (h := fun K hK => ?_)
   go_simp
   go_at_call 134
   refine (isName29' a2 _ hW.out.1 false hno).mono ?_
   rintro e w2 ⟨rfl, hb2⟩
   have hk := hHeld.on hb2
   clear hHeld
   go_wp2_with fail
   refine hK.out _ _ hk (fun hHeld => ?_)
   clear hK K hk
   try simp only [tpa, tpb, tpc, tpd, tpe]
   refine tk 7 ?_ (hy := ?_) (h := ?_)
   rotate_left
   ·intro w' hSw; go_simp; (try with_reducible rfl)
   try simp only [tpa, tpb, tpc, tpd, tpe]
   refine tk 8 ?_ (hy := ?_) (h := ?_)
   rotate_left
   ·intro w' hSw; go_simp; (try with_reducible rfl)
   try simp only [tpa, tpb, tpc, tpd, tpe]
   refine tn 9 (h := ?_)
   try simp only [tpa, tpb, tpc, tpd, tpe]
   refine tn 10 (h := ?_)
   try simp only [tpa, tpb, tpc, tpd, tpe]
   refine tn 11 (h := ?_)
   try simp only [tpa, tpb, tpc, tpd, tpe]
   refine tn 12 (h := ?_)
   try simp only [tpa, tpb, tpc, tpd, tpe]
   refine tk 13 ?_ (hy := ?_) (h := ?_)
   rotate_left
   ·intro w' hSw; go_simp; (try with_reducible rfl)
   try simp only [tpa, tpb, tpc, tpd, tpe]
   refine tk 14 ?_ (hy := ?_) (h := ?_)
   rotate_left
   ·intro w' hSw; go_simp; (try with_reducible rfl)
   try simp only [tpa, tpb, tpc, tpd, tpe]
   refine wpAnyH_done (by kernel_rfl) ?_ _
   have hb9 := hid hHeld.below
   clear hHeld
   go_wp2_with fail
   go_ret
   exact ⟨ret_bool (by simp only [okSH_3, hp, hno, Bool.true_and, Bool.false_and]), hb9.out⟩
  go_wp2_with fail
  have hS0 : Hid (S44 w w.heap.size (w.heap.size + 1) #[.int .i64 t, .int .u8 3, .string a2, .int .u8 a3, .string a4, .slice xa n xc, .slice ba nb bc, .slice ea ne ec] #[.int .i64 t, .int .u8 3, .string ⟨#[]⟩, .int .u8 a3, .string ⟨#[]⟩, .slice xa n xc, .slice ba nb bc, .slice ea ne ec] _) := hid (S44.start hX.out.1 hX.out.2 #[.int .i64 t, .int .u8 3, .string ⟨#[]⟩, .int .u8 a3, .string ⟨#[]⟩, .slice xa n xc, .slice ba nb bc, .slice ea ne ec])
  have hX := hX
  clear hF
  refine wp_region_held_drew (S := (S44 w w.heap.size (w.heap.size + 1) #[.int .i64 t, .int .u8 3, .string a2, .int .u8 a3, .string a4, .slice xa n xc, .slice ba nb bc, .slice ea ne ec] #[.int .i64 t, .int .u8 3, .string ⟨#[]⟩, .int .u8 a3, .string ⟨#[]⟩, .slice xa n xc, .slice ba nb bc, .slice ea ne ec])) (by kernel_rfl) hS0.out.drew (fun hHeld => ?_)
  refine tk 0 ?_ (hy := ?_) (h := ?_)
  rotate_left
  ·intro w' hSw; have c0 := hSw.own.cell 0; have c1 := hSw.own.cell 1; have c2 := hSw.own.cell 2; have c3 := hSw.own.cell 3; have c4 := hSw.own.cell 4; have c5 := hSw.own.cell 5; have c6 := hSw.own.cell 6; have c7 := hSw.own.cell 7; simp at c0 c1 c2 c3 c4 c5 c6 c7; go_simp; (try with_reducible rfl)
  try simp only [tpa, tpb, tpc, tpd, tpe]
  refine tk 1 ?_ (hy := ?_) (h := ?_)
  rotate_left
  ·intro w' hSw; go_simp; (try with_reducible rfl)
  try simp only [tpa, tpb, tpc, tpd, tpe]
  refine tr 2 (h := fun K hK => ?_)
  go_simp
  go_at_call 206
  refine (plain58' t 3 ⟨#[]⟩ a3 ⟨#[]⟩ xa ba ea n xc nb bc ne ec 2 _ true hp).mono ?_
  rintro e w2 ⟨rfl, hb2⟩
  have hk := hHeld.on hb2
  clear hHeld
  go_wp2_with fail
  refine hK.out _ _ hk (fun hHeld => ?_)
  clear hK K hk
  try simp only [tpa, tpb, tpc, tpd, tpe]
  refine tk 3 ?_ (hy := ?_) (h := ?_)
  rotate_left
  ·intro w' hSw; go_simp; (try with_reducible rfl)
  try simp only [tpa, tpb, tpc, tpd, tpe]
  refine tk 4 ?_ (hy := ?_) (h := ?_)
  rotate_left
  ·intro w' hSw; go_simp; (try with_reducible rfl)
  try simp only [tpa, tpb, tpc, tpd, tpe]
  refine tk 5 ?_ (hy := ?_) (h := ?_)
  rotate_left
  ·intro w' hSw; have c2 := hSw.box.cell 2; have c4 := hSw.box.cell 4; simp at c2 c4; go_simp; (try with_reducible rfl)
  try simp only [tpa, tpb, tpc, tpd, tpe]
  refine tr 6 (h := fun K hK => ?_)
  go_simp
  go_at_call 134
  refine (isName29' a2 _ hW.out.1 true hno).mono ?_
  rintro e w2 ⟨rfl, hb2⟩
  have hk := hHeld.on hb2
  clear hHeld
  go_wp2_with fail
  refine hK.out _ _ hk (fun hHeld => ?_)
  clear hK K hk
  try simp only [tpa, tpb, tpc, tpd, tpe]
  refine tk 7 ?_ (hy := ?_) (h := ?_)
  rotate_left
  ·intro w' hSw; go_simp; (try with_reducible rfl)
  try simp only [tpa, tpb, tpc, tpd, tpe]
  refine tk 8 ?_ (hy := ?_) (h := ?_)
  rotate_left
  ·intro w' hSw; go_simp; (try with_reducible rfl)
  try simp only [tpa, tpb, tpc, tpd, tpe]
  refine tk 10 ?_ (hy := ?_) (h := ?_)
  rotate_left
  ·intro w' hSw; go_simp; (try with_reducible rfl)
  try simp only [tpa, tpb, tpc, tpd, tpe]
  refine tk 11 ?_ (hy := ?_) (h := ?_)
  rotate_left
  ·intro w' hSw; have c2 := hSw.box.cell 2; have c4 := hSw.box.cell 4; simp at c2 c4; go_simp; (try with_reducible rfl)
  try simp only [tpa, tpb, tpc, tpd, tpe]
  refine tr 9 (h := fun K hK => ?_)
  go_simp
  go_at_call 208
  refine (sets60' _).mono ?_
  rintro e w2 ⟨rfl, hw2⟩
  have hk := hHeld.alloc' hw2
  have hsets := hid (sets_of hw2)
  clear hw2
  clear hHeld
  go_wp2_with fail
  refine hK.out _ _ hk (fun hHeld => ?_)
  clear hK K hk
  try simp only [tpa, tpb, tpc, tpd, tpe]
  refine tr 12 (h := fun K hK => ?_)
  go_simp
  go_at_call 207
  refine (contains59' setsL _ a4 _ (by decide) hsets.out).mono ?_
  rintro e w2 ⟨rfl, hw2⟩
  have hk := hHeld.same hw2
  subst hw2
  clear hHeld
  go_wp2_with fail
  refine hK.out _ _ hk (fun hHeld => ?_)
  clear hK K hk
  try simp only [tpa, tpb, tpc, tpd, tpe]
  refine tk 13 ?_ (hy := ?_) (h := ?_)
  rotate_left
  ·intro w' hSw; go_simp; (try with_reducible rfl)
  try simp only [tpa, tpb, tpc, tpd, tpe]
  refine tk 14 ?_ (hy := ?_) (h := ?_)
  rotate_left
  ·intro w' hSw; go_simp; (try with_reducible rfl)
  try simp only [tpa, tpb, tpc, tpd, tpe]
  refine wpAnyH_done (by kernel_rfl) ?_ _
  have hb9 := hid hHeld.below
  clear hHeld
  go_wp2_with fail
  go_ret
  exact ⟨ret_bool (by simp only [okSH_3, hp, hno, Bool.true_and, Bool.false_and]), hb9.out⟩
 by_cases h4 : a1 = 4
 ·subst h4
  go_wp2_with fail
  refine (plain58 t 4 a2 a3 a4 xa none none n xc 0 0 0 0 1 _).mono ?_
  rintro e w2 ⟨rfl, hb2⟩
  have hX2 := hid (bx_own hX.out.1 hb2)
  have hB2 := hid (below_own hX.out.2 hb2)
  clear hb2
  go_wp2_with fail
  go_ret
  exact ⟨ret_bool (by simp only [okSH_4, Bool.true_and, Bool.false_and]), hB2.out⟩
 by_cases h5 : a1 = 5
 ·subst h5
  go_wp2_with fail
  refine (plain58 t 5 a2 a3 a4 xa none ea n xc 0 0 ne ec 1 _).mono ?_
  rintro e w2 ⟨rfl, hb2⟩
  have hX2 := hid (bx_own hX.out.1 hb2)
  have hB2 := hid (below_own hX.out.2 hb2)
  clear hb2
  go_wp2_with fail
  go_ret
  exact ⟨ret_bool (by simp only [okSH_5, Bool.true_and, Bool.false_and]), hB2.out⟩
 by_cases h6 : a1 = 6
 ·subst h6
  go_wp2_with fail
  refine (plain58 t 6 a2 a3 a4 xa ba ea n xc nb bc ne ec 0 _).mono ?_
  rintro e w2 ⟨rfl, hb2⟩
  have hX2 := hid (bx_own hX.out.1 hb2)
  have hB2 := hid (below_own hX.out.2 hb2)
  clear hb2
  go_wp2_with fail
  go_ret
  exact ⟨ret_bool (by simp only [okSH_6, Bool.true_and, Bool.false_and]), hB2.out⟩
 by_cases h7 : a1 = 7
 ·subst h7
  go_wp2_with fail
  refine (plain58 t 7 a2 a3 a4 xa ba ea n xc nb bc ne ec 0 _).mono ?_
  rintro e w2 ⟨rfl, hb2⟩
  have hX2 := hid (bx_own hX.out.1 hb2)
  have hB2 := hid (below_own hX.out.2 hb2)
  clear hb2
  go_wp2_with fail
  go_ret
  exact ⟨ret_bool (by simp only [okSH_7, Bool.true_and, Bool.false_and]), hB2.out⟩
 by_cases h8 : a1 = 8
 ·subst h8
  go_wp2_with fail
  refine (plain58 t 8 a2 a3 a4 xa ba ea n xc nb bc ne ec 1 _).mono ?_
  rintro e w2 ⟨rfl, hb2⟩
  have hX2 := hid (bx_own hX.out.1 hb2)
  have hB2 := hid (below_own hX.out.2 hb2)
  clear hb2
  go_wp2_with fail
  go_ret
  exact ⟨ret_bool (by simp only [okSH_8, Bool.true_and, Bool.false_and]), hB2.out⟩
 by_cases h9 : a1 = 9
 ·subst h9
  go_wp2_with fail
  refine (plain58 t 9 a2 a3 a4 xa ba ea n xc nb bc ne ec 1 _).mono ?_
  rintro e w2 ⟨rfl, hb2⟩
  have hX2 := hid (bx_own hX.out.1 hb2)
  have hB2 := hid (below_own hX.out.2 hb2)
  clear hb2
  have p2 := hX2.out.cell 2
  have p3 := hX2.out.cell 3
  have p4 := hX2.out.cell 4
  have p5 := hX2.out.cell 5
  have pl := hX2.out.lt
  simp at p2 p3 p4 p5
  cases hp : plainS a2 a3 a4 n 1 nb ne
  ·go_wp2_with fail
   go_ret
   exact ⟨ret_bool (by simp only [okSH_9, hp, Bool.true_and, Bool.false_and]), hB2.out⟩
  have hn1 : n = 1 := by
   have : ((n : Int) == (1 : Nat)) = true := by
    simp only [plainS, Bool.and_eq_true] at hp
    exact hp.2.2.2.1
   have : (n : Int) = 1 := by simpa using this
   omega
  subst hn1
  obtain ⟨b, o, hxa, hc⟩ : ∃ b o, xa = some ⟨b, o, none⟩ ∧ w.cell? ⟨b, o + 1, none⟩ = some (.int .u8 fk) := by rcases hF.out with q | q; (· omega); (· exact q)
  subst hxa
  have hc2 := cell_on hc hB2.out
  clear hc
  go_wp2_with fail
  go_ret
  exact ⟨ret_bool (by simp only [okSH_9, hp, Bool.true_and, Bool.false_and]), hB2.out⟩
 have q1 : (a1 == 1) = false := by simpa using h1
 have q2 : (a1 == 2) = false := by simpa using h2
 have q3 : (a1 == 3) = false := by simpa using h3
 have q4 : (a1 == 4) = false := by simpa using h4
 have q5 : (a1 == 5) = false := by simpa using h5
 have q6 : (a1 == 6) = false := by simpa using h6
 have q7 : (a1 == 7) = false := by simpa using h7
 have q8 : (a1 == 8) = false := by simpa using h8
 have q9 : (a1 == 9) = false := by simpa using h9
 have hnone := hid (okSH_0 t a1 a2 a3 a4 n fk nb ne ⟨h1, h2, h3, h4, h5, h6, h7, h8, h9⟩)
 clear h1 h2 h3 h4 h5 h6 h7 h8 h9
 go_wp2_with fail
 go_ret
 exact ⟨ret_bool hnone.out.symm, hX.out.2.alloc hX.out.2.size _⟩
end
end Go.Proofs.YtlabadkfkbenoaaGreatDoor
