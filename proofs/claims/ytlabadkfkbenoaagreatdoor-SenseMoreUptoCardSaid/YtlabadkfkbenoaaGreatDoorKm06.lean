/- Walks and plain laws, merged: ChkG ChkH ChkI. No condition. -/
import Derived.Test.YtlabadkfkbenoaaGreatDoorProg
import Derived.Outline
import Derived.Deep.RegionHeld3
import Derived.Test.YtlabadkfkbenoaaGreatDoorKm01
import Derived.Test.YtlabadkfkbenoaaGreatDoorKm05
namespace Go.Proofs.YtlabadkfkbenoaaGreatDoor
open Go.RowKit
set_option linter.unusedVariables false
set_option linter.unusedSimpArgs false
set_option maxRecDepth 100000
set_option maxHeartbeats 64000000
section
open Go.Shelf
def SH.Wf (h : SH) : Prop := h.name.size ≤ 1048576 ∧ h.sign.size ≤ 1048576
def Sts.Wf : Sts → Prop
 | .nil => True
 | .cons h x b e r => h.Wf ∧ x.Wf ∧ b.Wf ∧ e.Wf ∧ r.Wf
def Exs.fk : Exs → Int
 | .nil => 0
 | .cons h _ _ => h.kind
def okSH (h : SH) (n : Nat) (fk : Int) (nb ne : Nat) : Bool :=
 if h.kind = 1 then plainS ⟨#[]⟩ 0 h.sign n 1 nb ne && (nameOk h.name && typeB h.type)
 else if h.kind = 2 then plainS ⟨#[]⟩ h.type ⟨#[]⟩ n 1 nb ne && (nameOk h.name && inList setsL h.sign)
 else if h.kind = 3 then plainS ⟨#[]⟩ h.type ⟨#[]⟩ n 2 nb ne && (nameOk h.name && inList setsL h.sign)
 else if h.kind = 4 then plainS h.name h.type h.sign n 1 0 0
 else if h.kind = 5 then plainS h.name h.type h.sign n 1 0 ne
 else if h.kind = 6 then plainS h.name h.type h.sign n 0 nb ne
 else if h.kind = 7 then plainS h.name h.type h.sign n 0 nb ne
 else if h.kind = 8 then plainS h.name h.type h.sign n 1 nb ne
 else if h.kind = 9 then plainS h.name h.type h.sign n 1 nb ne && (fk == 5)
 else false
theorem okSH_1 (a0 : Int) (a2 : ByteArray) (a3 : Int) (a4 : ByteArray) (n : Nat) (fk : Int) (nb ne : Nat) : okSH ⟨a0, 1, a2, a3, a4⟩ n fk nb ne = (plainS ⟨#[]⟩ 0 a4 n 1 nb ne && (nameOk a2 && typeB a3)) := rfl
theorem okSH_2 (a0 : Int) (a2 : ByteArray) (a3 : Int) (a4 : ByteArray) (n : Nat) (fk : Int) (nb ne : Nat) : okSH ⟨a0, 2, a2, a3, a4⟩ n fk nb ne = (plainS ⟨#[]⟩ a3 ⟨#[]⟩ n 1 nb ne && (nameOk a2 && inList setsL a4)) := rfl
theorem okSH_3 (a0 : Int) (a2 : ByteArray) (a3 : Int) (a4 : ByteArray) (n : Nat) (fk : Int) (nb ne : Nat) : okSH ⟨a0, 3, a2, a3, a4⟩ n fk nb ne = (plainS ⟨#[]⟩ a3 ⟨#[]⟩ n 2 nb ne && (nameOk a2 && inList setsL a4)) := rfl
theorem okSH_4 (a0 : Int) (a2 : ByteArray) (a3 : Int) (a4 : ByteArray) (n : Nat) (fk : Int) (nb ne : Nat) : okSH ⟨a0, 4, a2, a3, a4⟩ n fk nb ne = plainS a2 a3 a4 n 1 0 0 := rfl
theorem okSH_5 (a0 : Int) (a2 : ByteArray) (a3 : Int) (a4 : ByteArray) (n : Nat) (fk : Int) (nb ne : Nat) : okSH ⟨a0, 5, a2, a3, a4⟩ n fk nb ne = plainS a2 a3 a4 n 1 0 ne := rfl
theorem okSH_6 (a0 : Int) (a2 : ByteArray) (a3 : Int) (a4 : ByteArray) (n : Nat) (fk : Int) (nb ne : Nat) : okSH ⟨a0, 6, a2, a3, a4⟩ n fk nb ne = plainS a2 a3 a4 n 0 nb ne := rfl
theorem okSH_7 (a0 : Int) (a2 : ByteArray) (a3 : Int) (a4 : ByteArray) (n : Nat) (fk : Int) (nb ne : Nat) : okSH ⟨a0, 7, a2, a3, a4⟩ n fk nb ne = plainS a2 a3 a4 n 0 nb ne := rfl
theorem okSH_8 (a0 : Int) (a2 : ByteArray) (a3 : Int) (a4 : ByteArray) (n : Nat) (fk : Int) (nb ne : Nat) : okSH ⟨a0, 8, a2, a3, a4⟩ n fk nb ne = plainS a2 a3 a4 n 1 nb ne := rfl
theorem okSH_9 (a0 : Int) (a2 : ByteArray) (a3 : Int) (a4 : ByteArray) (n : Nat) (fk : Int) (nb ne : Nat) : okSH ⟨a0, 9, a2, a3, a4⟩ n fk nb ne = (plainS a2 a3 a4 n 1 nb ne && (fk == 5)) := rfl
theorem okSH_0 (a0 a1 : Int) (a2 : ByteArray) (a3 : Int) (a4 : ByteArray) (n : Nat) (fk : Int) (nb ne : Nat) (h : ¬ a1 = 1 ∧ ¬ a1 = 2 ∧ ¬ a1 = 3 ∧ ¬ a1 = 4 ∧ ¬ a1 = 5 ∧ ¬ a1 = 6 ∧ ¬ a1 = 7 ∧ ¬ a1 = 8 ∧ ¬ a1 = 9) : okSH ⟨a0, a1, a2, a3, a4⟩ n fk nb ne = false := by
 obtain ⟨h1, h2, h3, h4, h5, h6, h7, h8, h9⟩ := h
 simp only [okSH, h1, h2, h3, h4, h5, h6, h7, h8, h9, if_false]
theorem sets_in (w : World) : ∀ i (hi : i < setsL.length), (w.alloc (.cells (setsL.map Value.string).toArray 9)).cell? ⟨w.heap.size, i, none⟩ = some (.string setsL[i]) := fun i hi => cell_bx (Bx.new w _ 9) i hi
theorem plain58' (a0 a1 : Int) (a2 : ByteArray) (a3 : Int) (a4 : ByteArray) (xa ba ea : Option Addr) (n xc nb bc ne ec k : Nat) (w : World) (x : Bool) (hx : plainS a2 a3 a4 n k nb ne = x) :
  Calls Tryz.prog 206 #[.agg #[.int .i64 a0, .int .u8 a1, .string a2, .int .u8 a3, .string a4, .slice xa n xc, .slice ba nb bc, .slice ea ne ec], .int .i64 k] w fun e w' => e = .returned (.bool x) ∧ Below w.heap.size w w' := by
 subst hx
 exact plain58 a0 a1 a2 a3 a4 xa ba ea n xc nb bc ne ec k w
structure S44 (w : World) (q q2 : Nat) (box own : Array Value) (w' : World) : Prop where
 box : Bx w' q box 109
 own : Bx w' q2 own 109
 below : Below w.heap.size w w'
theorem S44.on {w w1 w2 : World} {q q2 : Nat} {box own : Array Value} (h : S44 w q q2 box own w1) (hb : Below w1.heap.size w1 w2) : S44 w q q2 box own w2 :=
 ⟨h.box.on (grown_of_below hb) (by simp), h.own.on (grown_of_below hb) (by simp), h.below.trans (hb.mono h.below.size)⟩
theorem S44.same {w w1 w2 : World} {q q2 : Nat} {box own : Array Value} (h : S44 w q q2 box own w1) (hb : w2 = w1) : S44 w q q2 box own w2 := by rw [hb]; exact h
theorem S44.alloc' {w w1 w2 : World} {q q2 : Nat} {box own : Array Value} (h : S44 w q q2 box own w1) {o : Obj} (hb : w2 = w1.alloc o) : S44 w q q2 box own w2 := by
 rw [hb]
 exact h.on ((Below.refl _ _).alloc (Nat.le_refl _) _)
theorem S44.drew {w w1 : World} {q q2 : Nat} {box own : Array Value} (h : S44 w q q2 box own w1) : S44 w q q2 box own w1.drew := h.on (Below.refl _ _).drew
theorem S44.start {w : World} {box : Array Value} (h1 : Bx (w.alloc (.cells box 109)) w.heap.size box 109) (h2 : Below w.heap.size w (w.alloc (.cells box 109))) (own' : Array Value) : S44 w w.heap.size (w.heap.size + 1) box own' ((w.alloc (.cells box 109)).alloc (.cells own' 109)) :=
 ⟨h1.on (World.grownBy_alloc _ _ none) (by simp), by have := Bx.new (w.alloc (.cells box 109)) own' 109; simpa using this, h2.alloc h2.size _⟩
theorem isName29' (s : ByteArray) (w : World) (hs : s.size ≤ 1048576) (x : Bool) (hx : nameOk s = x) : Calls Tryz.prog 134 #[.string s] w fun e w' => e = .returned (.bool x) ∧ Below w.heap.size w w' := by
 subst hx
 exact isName29 s w hs
theorem sets60' (w : World) : Calls Tryz.prog 208 #[] w fun e w' => e = .returned (.slice (some ⟨w.heap.size, 0, none⟩) 11 11) ∧ w' = w.alloc (.cells (setsL.map Value.string).toArray 9) := sets60 w
theorem sets_of {w w' : World} (h : w' = w.alloc (.cells (setsL.map Value.string).toArray 9)) : ∀ i (hi : i < setsL.length), w'.cell? ⟨w.heap.size, i, none⟩ = some (.string setsL[i]) := by
 rw [h]
 exact sets_in w
theorem contains59' (L : List ByteArray) (B : Nat) (x : ByteArray) (w : World) (hn : L.length ≤ 1000) (h : ∀ i (hi : i < L.length), w.cell? ⟨B, i, none⟩ = some (.string L[i])) :
  Calls Tryz.prog 207 #[.slice (some ⟨B, 0, none⟩) L.length L.length, .string x] w fun e w' => e = .returned (.bool (inList L x)) ∧ w' = w := contains59 L B x w hn h
theorem fits44 (t a1 : Int) (a2 : ByteArray) (a3 : Int) (a4 : ByteArray) (xa ba ea : Option Addr) (n xc nb bc ne ec : Nat) (fk : Int) (w : World) (hwf : a2.size ≤ 1048576 ∧ a4.size ≤ 1048576) (hfk : n = 0 ∨ ∃ b o, xa = some ⟨b, o, none⟩ ∧ w.cell? ⟨b, o + 1, none⟩ = some (.int .u8 fk)) (hn : n ≤ 100000000) :
  Calls Tryz.prog 167 #[aggS t ⟨t, a1, a2, a3, a4⟩ (.slice xa n xc) (.slice ba nb bc) (.slice ea ne ec)] w fun e w' => e = .returned (.bool (okSH ⟨t, a1, a2, a3, a4⟩ n fk nb ne)) ∧ Below w.heap.size w w' := by
 have hX := hid (And.intro (Bx.new w #[.int .i64 t, .int .u8 a1, .string a2, .int .u8 a3, .string a4, .slice xa n xc, .slice ba nb bc, .slice ea ne ec] 109) ((Below.refl w.heap.size w).alloc (Nat.le_refl _) (.cells #[.int .i64 t, .int .u8 a1, .string a2, .int .u8 a3, .string a4, .slice xa n xc, .slice ba nb bc, .slice ea ne ec] 109)))
 have hW := hid hwf
 have hF := hid hfk
 clear hwf hfk
 go_enter Tryz.func167, Tryz.ntmps167
 by_cases h1 : a1 = 1
 ·subst h1
  go_wp2_with fail
  refine (plain58 t 1 ⟨#[]⟩ 0 a4 xa ba ea n xc nb bc ne ec 1 _).mono ?_
  rintro e w2 ⟨rfl, hb2⟩
  have hX2 := hid (bx_own hX.out.1 hb2)
  have hB2 := hid (below_own hX.out.2 hb2)
  clear hb2
  have p2 := hX2.out.cell 2
  have p3 := hX2.out.cell 3
  have p4 := hX2.out.cell 4
  have p5 := hX2.out.cell 5
  have pl := hX2.out.lt
  simp at p2 p3 p4 p5
  cases hp : plainS ⟨#[]⟩ 0 a4 n 1 nb ne
  ·go_wp2_with fail
   go_ret
   exact ⟨ret_bool (by simp only [okSH_1, hp, Bool.true_and, Bool.false_and]), hB2.out⟩
  have hcf := hid (isName29 a2 w2 hW.out.1)
  go_wp2_with fail
  refine hcf.out.mono ?_
  rintro e w3 ⟨rfl, hb3⟩
  have hB3 := hid (hB2.out.trans (hb3.mono hB2.out.size))
  have hX3 := hid (hX2.out.on (grown_of_below hb3) (by simp))
  have pq := hX3.out.cell 3
  simp at pq
  clear hb3 p2 p3 p4 p5 pl hcf
  cases hno : nameOk a2
  ·go_wp2_with fail
   go_ret
   exact ⟨ret_bool (by simp only [okSH_1, hp, hno, Bool.true_and, Bool.false_and]), hB3.out⟩
  have hcf := hid (isType30 a3 w3)
  go_wp2_with fail
  refine hcf.out.mono ?_
  rintro e w4 ⟨rfl, hw⟩
  subst w4
  go_wp2_with fail
  go_ret
  exact ⟨ret_bool (by simp only [okSH_1, hp, hno, Bool.true_and, Bool.false_and]), hB3.out⟩
 by_cases h2 : a1 = 2
 ·subst h2
  cases hp : plainS ⟨#[]⟩ a3 ⟨#[]⟩ n 1 nb ne
  ·go_wp2_with fail
   have hS0 : Hid (S44 w w.heap.size (w.heap.size + 1) #[.int .i64 t, .int .u8 2, .string a2, .int .u8 a3, .string a4, .slice xa n xc, .slice ba nb bc, .slice ea ne ec] #[.int .i64 t, .int .u8 2, .string ⟨#[]⟩, .int .u8 a3, .string ⟨#[]⟩, .slice xa n xc, .slice ba nb bc, .slice ea ne ec] _) := hid (S44.start hX.out.1 hX.out.2 #[.int .i64 t, .int .u8 2, .string ⟨#[]⟩, .int .u8 a3, .string ⟨#[]⟩, .slice xa n xc, .slice ba nb bc, .slice ea ne ec])
   have hX := hX
   clear hF
   refine wp_region_held_drew (S := (S44 w w.heap.size (w.heap.size + 1) #[.int .i64 t, .int .u8 2, .string a2, .int .u8 a3, .string a4, .slice xa n xc, .slice ba nb bc, .slice ea ne ec] #[.int .i64 t, .int .u8 2, .string ⟨#[]⟩, .int .u8 a3, .string ⟨#[]⟩, .slice xa n xc, .slice ba nb bc, .slice ea ne ec])) (by kernel_rfl) hS0.out.drew (fun hHeld => ?_)
   refine tk 0 ?_ (hy := by intro w' hSw; have c0 := hSw.own.cell 0; have c1 := hSw.own.cell 1; have c2 := hSw.own.cell 2; have c3 := hSw.own.cell 3; have c4 := hSw.own.cell 4; have c5 := hSw.own.cell 5; have c6 := hSw.own.cell 6; have c7 := hSw.own.cell 7; simp at c0 c1 c2 c3 c4 c5 c6 c7; go_simp; (try with_reducible rfl))
   refine tk 1 ?_
   refine tr 2 fun K hK => ?_
   go_simp
   go_at_call 206
   refine (plain58' t 2 ⟨#[]⟩ a3 ⟨#[]⟩ xa ba ea n xc nb bc ne ec 1 _ false hp).mono ?_
   rintro e w2 ⟨rfl, hb2⟩
   have hk := hHeld.on hb2
   clear hHeld
   go_wp2_with fail
   refine hK.out _ _ hk (fun hHeld => ?_)
   clear hK K hk
   try simp only [tpa, tpb, tpc, tpd, tpe]
   refine tk 3 ?_
   refine tn 4 ?_
   refine tn 5 ?_
   refine tn 6 ?_
   refine tk 7 ?_
   refine tk 8 ?_
   refine tn 9 ?_
   refine tn 10 ?_
   refine tn 11 ?_
   refine tn 12 ?_
   refine tk 13 ?_
   refine tk 14 ?_
   refine td ?_
   have hb9 := hid hHeld.below
   clear hHeld
   go_wp2_with fail
   go_ret
   exact ⟨ret_bool (by simp only [okSH_2, hp, Bool.true_and, Bool.false_and]), hb9.out⟩
  cases hno : nameOk a2
  ·go_wp2_with fail
   have hS0 : Hid (S44 w w.heap.size (w.heap.size + 1) #[.int .i64 t, .int .u8 2, .string a2, .int .u8 a3, .string a4, .slice xa n xc, .slice ba nb bc, .slice ea ne ec] #[.int .i64 t, .int .u8 2, .string ⟨#[]⟩, .int .u8 a3, .string ⟨#[]⟩, .slice xa n xc, .slice ba nb bc, .slice ea ne ec] _) := hid (S44.start hX.out.1 hX.out.2 #[.int .i64 t, .int .u8 2, .string ⟨#[]⟩, .int .u8 a3, .string ⟨#[]⟩, .slice xa n xc, .slice ba nb bc, .slice ea ne ec])
   have hX := hX
   clear hF
   refine wp_region_held_drew (S := (S44 w w.heap.size (w.heap.size + 1) #[.int .i64 t, .int .u8 2, .string a2, .int .u8 a3, .string a4, .slice xa n xc, .slice ba nb bc, .slice ea ne ec] #[.int .i64 t, .int .u8 2, .string ⟨#[]⟩, .int .u8 a3, .string ⟨#[]⟩, .slice xa n xc, .slice ba nb bc, .slice ea ne ec])) (by kernel_rfl) hS0.out.drew (fun hHeld => ?_)
   refine tk 0 ?_ (hy := by intro w' hSw; have c0 := hSw.own.cell 0; have c1 := hSw.own.cell 1; have c2 := hSw.own.cell 2; have c3 := hSw.own.cell 3; have c4 := hSw.own.cell 4; have c5 := hSw.own.cell 5; have c6 := hSw.own.cell 6; have c7 := hSw.own.cell 7; simp at c0 c1 c2 c3 c4 c5 c6 c7; go_simp; (try with_reducible rfl))
   refine tk 1 ?_
   refine tr 2 fun K hK => ?_
   go_simp
   go_at_call 206
   refine (plain58' t 2 ⟨#[]⟩ a3 ⟨#[]⟩ xa ba ea n xc nb bc ne ec 1 _ true hp).mono ?_
   rintro e w2 ⟨rfl, hb2⟩
   have hk := hHeld.on hb2
   clear hHeld
   go_wp2_with fail
   refine hK.out _ _ hk (fun hHeld => ?_)
   clear hK K hk
   try simp only [tpa, tpb, tpc, tpd, tpe]
   refine tk 3 ?_
   refine tk 4 ?_
   refine tk 5 ?_ (hy := by intro w' hSw; have c2 := hSw.box.cell 2; have c4 := hSw.box.cell 4; simp at c2 c4; go_simp; (try with_reducible rfl))
   refine tr 6 fun K hK => ?_
   go_simp
   go_at_call 134
   refine (isName29' a2 _ hW.out.1 false hno).mono ?_
   rintro e w2 ⟨rfl, hb2⟩
   have hk := hHeld.on hb2
   clear hHeld
   go_wp2_with fail
   refine hK.out _ _ hk (fun hHeld => ?_)
   clear hK K hk
   try simp only [tpa, tpb, tpc, tpd, tpe]
   refine tk 7 ?_
   refine tk 8 ?_
   refine tn 9 ?_
   refine tn 10 ?_
   refine tn 11 ?_
   refine tn 12 ?_
   refine tk 13 ?_
   refine tk 14 ?_
   refine td ?_
   have hb9 := hid hHeld.below
   clear hHeld
   go_wp2_with fail
   go_ret
   exact ⟨ret_bool (by simp only [okSH_2, hp, hno, Bool.true_and, Bool.false_and]), hb9.out⟩
  go_wp2_with fail
  have hS0 : Hid (S44 w w.heap.size (w.heap.size + 1) #[.int .i64 t, .int .u8 2, .string a2, .int .u8 a3, .string a4, .slice xa n xc, .slice ba nb bc, .slice ea ne ec] #[.int .i64 t, .int .u8 2, .string ⟨#[]⟩, .int .u8 a3, .string ⟨#[]⟩, .slice xa n xc, .slice ba nb bc, .slice ea ne ec] _) := hid (S44.start hX.out.1 hX.out.2 #[.int .i64 t, .int .u8 2, .string ⟨#[]⟩, .int .u8 a3, .string ⟨#[]⟩, .slice xa n xc, .slice ba nb bc, .slice ea ne ec])
  have hX := hX
  clear hF
  refine wp_region_held_drew (S := (S44 w w.heap.size (w.heap.size + 1) #[.int .i64 t, .int .u8 2, .string a2, .int .u8 a3, .string a4, .slice xa n xc, .slice ba nb bc, .slice ea ne ec] #[.int .i64 t, .int .u8 2, .string ⟨#[]⟩, .int .u8 a3, .string ⟨#[]⟩, .slice xa n xc, .slice ba nb bc, .slice ea ne ec])) (by kernel_rfl) hS0.out.drew (fun hHeld => ?_)
  refine tk 0 ?_ (hy := by intro w' hSw; have c0 := hSw.own.cell 0; have c1 := hSw.own.cell 1; have c2 := hSw.own.cell 2; have c3 := hSw.own.cell 3; have c4 := hSw.own.cell 4; have c5 := hSw.own.cell 5; have c6 := hSw.own.cell 6; have c7 := hSw.own.cell 7; simp at c0 c1 c2 c3 c4 c5 c6 c7; go_simp; (try with_reducible rfl))
  refine tk 1 ?_
  refine tr 2 fun K hK => ?_
  go_simp
  go_at_call 206
  refine (plain58' t 2 ⟨#[]⟩ a3 ⟨#[]⟩ xa ba ea n xc nb bc ne ec 1 _ true hp).mono ?_
  rintro e w2 ⟨rfl, hb2⟩
  have hk := hHeld.on hb2
  clear hHeld
  go_wp2_with fail
  refine hK.out _ _ hk (fun hHeld => ?_)
  clear hK K hk
  try simp only [tpa, tpb, tpc, tpd, tpe]
  refine tk 3 ?_
  refine tk 4 ?_
  refine tk 5 ?_ (hy := by intro w' hSw; have c2 := hSw.box.cell 2; have c4 := hSw.box.cell 4; simp at c2 c4; go_simp; (try with_reducible rfl))
  refine tr 6 fun K hK => ?_
  go_simp
  go_at_call 134
  refine (isName29' a2 _ hW.out.1 true hno).mono ?_
  rintro e w2 ⟨rfl, hb2⟩
  have hk := hHeld.on hb2
  clear hHeld
  go_wp2_with fail
  refine hK.out _ _ hk (fun hHeld => ?_)
  clear hK K hk
  try simp only [tpa, tpb, tpc, tpd, tpe]
  refine tk 7 ?_
  refine tk 8 ?_
  refine tk 10 ?_
  refine tk 11 ?_ (hy := by intro w' hSw; have c2 := hSw.box.cell 2; have c4 := hSw.box.cell 4; simp at c2 c4; go_simp; (try with_reducible rfl))
  refine tr 9 fun K hK => ?_
  go_simp
  go_at_call 208
  refine (sets60' _).mono ?_
  rintro e w2 ⟨rfl, hw2⟩
  have hk := hHeld.alloc' hw2
  have hsets := hid (sets_of hw2)
  clear hw2
  clear hHeld
  go_wp2_with fail
  refine hK.out _ _ hk (fun hHeld => ?_)
  clear hK K hk
  try simp only [tpa, tpb, tpc, tpd, tpe]
  refine tr 12 fun K hK => ?_
  go_simp
  go_at_call 207
  refine (contains59' setsL _ a4 _ (by decide) hsets.out).mono ?_
  rintro e w2 ⟨rfl, hw2⟩
  have hk := hHeld.same hw2
  subst hw2
  clear hHeld
  go_wp2_with fail
  refine hK.out _ _ hk (fun hHeld => ?_)
  clear hK K hk
  try simp only [tpa, tpb, tpc, tpd, tpe]
  refine tk 13 ?_
  refine tk 14 ?_
  refine td ?_
  have hb9 := hid hHeld.below
  clear hHeld
  go_wp2_with fail
  go_ret
  exact ⟨ret_bool (by simp only [okSH_2, hp, hno, Bool.true_and, Bool.false_and]), hb9.out⟩
 by_cases h3 : a1 = 3
 ·subst h3
  cases hp : plainS ⟨#[]⟩ a3 ⟨#[]⟩ n 2 nb ne
  ·go_wp2_with fail
   have hS0 : Hid (S44 w w.heap.size (w.heap.size + 1) #[.int .i64 t, .int .u8 3, .string a2, .int .u8 a3, .string a4, .slice xa n xc, .slice ba nb bc, .slice ea ne ec] #[.int .i64 t, .int .u8 3, .string ⟨#[]⟩, .int .u8 a3, .string ⟨#[]⟩, .slice xa n xc, .slice ba nb bc, .slice ea ne ec] _) := hid (S44.start hX.out.1 hX.out.2 #[.int .i64 t, .int .u8 3, .string ⟨#[]⟩, .int .u8 a3, .string ⟨#[]⟩, .slice xa n xc, .slice ba nb bc, .slice ea ne ec])
   have hX := hX
   clear hF
   refine wp_region_held_drew (S := (S44 w w.heap.size (w.heap.size + 1) #[.int .i64 t, .int .u8 3, .string a2, .int .u8 a3, .string a4, .slice xa n xc, .slice ba nb bc, .slice ea ne ec] #[.int .i64 t, .int .u8 3, .string ⟨#[]⟩, .int .u8 a3, .string ⟨#[]⟩, .slice xa n xc, .slice ba nb bc, .slice ea ne ec])) (by kernel_rfl) hS0.out.drew (fun hHeld => ?_)
   refine tk 0 ?_ (hy := by intro w' hSw; have c0 := hSw.own.cell 0; have c1 := hSw.own.cell 1; have c2 := hSw.own.cell 2; have c3 := hSw.own.cell 3; have c4 := hSw.own.cell 4; have c5 := hSw.own.cell 5; have c6 := hSw.own.cell 6; have c7 := hSw.own.cell 7; simp at c0 c1 c2 c3 c4 c5 c6 c7; go_simp; (try with_reducible rfl))
   refine tk 1 ?_
   refine tr 2 fun K hK => ?_
   go_simp
   go_at_call 206
   refine (plain58' t 3 ⟨#[]⟩ a3 ⟨#[]⟩ xa ba ea n xc nb bc ne ec 2 _ false hp).mono ?_
   rintro e w2 ⟨rfl, hb2⟩
   have hk := hHeld.on hb2
   clear hHeld
   go_wp2_with fail
   refine hK.out _ _ hk (fun hHeld => ?_)
   clear hK K hk
   try simp only [tpa, tpb, tpc, tpd, tpe]
   refine tk 3 ?_
   refine tn 4 ?_
   refine tn 5 ?_
   refine tn 6 ?_
   refine tk 7 ?_
   refine tk 8 ?_
   refine tn 9 ?_
   refine tn 10 ?_
   refine tn 11 ?_
   refine tn 12 ?_
   refine tk 13 ?_
   refine tk 14 ?_
   refine td ?_
   have hb9 := hid hHeld.below
   clear hHeld
   go_wp2_with fail
   go_ret
   exact ⟨ret_bool (by simp only [okSH_3, hp, Bool.true_and, Bool.false_and]), hb9.out⟩
  cases hno : nameOk a2
  ·go_wp2_with fail
   have hS0 : Hid (S44 w w.heap.size (w.heap.size + 1) #[.int .i64 t, .int .u8 3, .string a2, .int .u8 a3, .string a4, .slice xa n xc, .slice ba nb bc, .slice ea ne ec] #[.int .i64 t, .int .u8 3, .string ⟨#[]⟩, .int .u8 a3, .string ⟨#[]⟩, .slice xa n xc, .slice ba nb bc, .slice ea ne ec] _) := hid (S44.start hX.out.1 hX.out.2 #[.int .i64 t, .int .u8 3, .string ⟨#[]⟩, .int .u8 a3, .string ⟨#[]⟩, .slice xa n xc, .slice ba nb bc, .slice ea ne ec])
   have hX := hX
   clear hF
   refine wp_region_held_drew (S := (S44 w w.heap.size (w.heap.size + 1) #[.int .i64 t, .int .u8 3, .string a2, .int .u8 a3, .string a4, .slice xa n xc, .slice ba nb bc, .slice ea ne ec] #[.int .i64 t, .int .u8 3, .string ⟨#[]⟩, .int .u8 a3, .string ⟨#[]⟩, .slice xa n xc, .slice ba nb bc, .slice ea ne ec])) (by kernel_rfl) hS0.out.drew (fun hHeld => ?_)
   refine tk 0 ?_ (hy := by intro w' hSw; have c0 := hSw.own.cell 0; have c1 := hSw.own.cell 1; have c2 := hSw.own.cell 2; have c3 := hSw.own.cell 3; have c4 := hSw.own.cell 4; have c5 := hSw.own.cell 5; have c6 := hSw.own.cell 6; have c7 := hSw.own.cell 7; simp at c0 c1 c2 c3 c4 c5 c6 c7; go_simp; (try with_reducible rfl))
   refine tk 1 ?_
   refine tr 2 fun K hK => ?_
   go_simp
   go_at_call 206
   refine (plain58' t 3 ⟨#[]⟩ a3 ⟨#[]⟩ xa ba ea n xc nb bc ne ec 2 _ true hp).mono ?_
   rintro e w2 ⟨rfl, hb2⟩
   have hk := hHeld.on hb2
   clear hHeld
   go_wp2_with fail
   refine hK.out _ _ hk (fun hHeld => ?_)
   clear hK K hk
   try simp only [tpa, tpb, tpc, tpd, tpe]
   refine tk 3 ?_
   refine tk 4 ?_
   refine tk 5 ?_ (hy := by intro w' hSw; have c2 := hSw.box.cell 2; have c4 := hSw.box.cell 4; simp at c2 c4; go_simp; (try with_reducible rfl))
   refine tr 6 fun K hK => ?_
   go_simp
   go_at_call 134
   refine (isName29' a2 _ hW.out.1 false hno).mono ?_
   rintro e w2 ⟨rfl, hb2⟩
   have hk := hHeld.on hb2
   clear hHeld
   go_wp2_with fail
   refine hK.out _ _ hk (fun hHeld => ?_)
   clear hK K hk
   try simp only [tpa, tpb, tpc, tpd, tpe]
   refine tk 7 ?_
   refine tk 8 ?_
   refine tn 9 ?_
   refine tn 10 ?_
   refine tn 11 ?_
   refine tn 12 ?_
   refine tk 13 ?_
   refine tk 14 ?_
   refine td ?_
   have hb9 := hid hHeld.below
   clear hHeld
   go_wp2_with fail
   go_ret
   exact ⟨ret_bool (by simp only [okSH_3, hp, hno, Bool.true_and, Bool.false_and]), hb9.out⟩
  go_wp2_with fail
  have hS0 : Hid (S44 w w.heap.size (w.heap.size + 1) #[.int .i64 t, .int .u8 3, .string a2, .int .u8 a3, .string a4, .slice xa n xc, .slice ba nb bc, .slice ea ne ec] #[.int .i64 t, .int .u8 3, .string ⟨#[]⟩, .int .u8 a3, .string ⟨#[]⟩, .slice xa n xc, .slice ba nb bc, .slice ea ne ec] _) := hid (S44.start hX.out.1 hX.out.2 #[.int .i64 t, .int .u8 3, .string ⟨#[]⟩, .int .u8 a3, .string ⟨#[]⟩, .slice xa n xc, .slice ba nb bc, .slice ea ne ec])
  have hX := hX
  clear hF
  refine wp_region_held_drew (S := (S44 w w.heap.size (w.heap.size + 1) #[.int .i64 t, .int .u8 3, .string a2, .int .u8 a3, .string a4, .slice xa n xc, .slice ba nb bc, .slice ea ne ec] #[.int .i64 t, .int .u8 3, .string ⟨#[]⟩, .int .u8 a3, .string ⟨#[]⟩, .slice xa n xc, .slice ba nb bc, .slice ea ne ec])) (by kernel_rfl) hS0.out.drew (fun hHeld => ?_)
  refine tk 0 ?_ (hy := by intro w' hSw; have c0 := hSw.own.cell 0; have c1 := hSw.own.cell 1; have c2 := hSw.own.cell 2; have c3 := hSw.own.cell 3; have c4 := hSw.own.cell 4; have c5 := hSw.own.cell 5; have c6 := hSw.own.cell 6; have c7 := hSw.own.cell 7; simp at c0 c1 c2 c3 c4 c5 c6 c7; go_simp; (try with_reducible rfl))
  refine tk 1 ?_
  refine tr 2 fun K hK => ?_
  go_simp
  go_at_call 206
  refine (plain58' t 3 ⟨#[]⟩ a3 ⟨#[]⟩ xa ba ea n xc nb bc ne ec 2 _ true hp).mono ?_
  rintro e w2 ⟨rfl, hb2⟩
  have hk := hHeld.on hb2
  clear hHeld
  go_wp2_with fail
  refine hK.out _ _ hk (fun hHeld => ?_)
  clear hK K hk
  try simp only [tpa, tpb, tpc, tpd, tpe]
  refine tk 3 ?_
  refine tk 4 ?_
  refine tk 5 ?_ (hy := by intro w' hSw; have c2 := hSw.box.cell 2; have c4 := hSw.box.cell 4; simp at c2 c4; go_simp; (try with_reducible rfl))
  refine tr 6 fun K hK => ?_
  go_simp
  go_at_call 134
  refine (isName29' a2 _ hW.out.1 true hno).mono ?_
  rintro e w2 ⟨rfl, hb2⟩
  have hk := hHeld.on hb2
  clear hHeld
  go_wp2_with fail
  refine hK.out _ _ hk (fun hHeld => ?_)
  clear hK K hk
  try simp only [tpa, tpb, tpc, tpd, tpe]
  refine tk 7 ?_
  refine tk 8 ?_
  refine tk 10 ?_
  refine tk 11 ?_ (hy := by intro w' hSw; have c2 := hSw.box.cell 2; have c4 := hSw.box.cell 4; simp at c2 c4; go_simp; (try with_reducible rfl))
  refine tr 9 fun K hK => ?_
  go_simp
  go_at_call 208
  refine (sets60' _).mono ?_
  rintro e w2 ⟨rfl, hw2⟩
  have hk := hHeld.alloc' hw2
  have hsets := hid (sets_of hw2)
  clear hw2
  clear hHeld
  go_wp2_with fail
  refine hK.out _ _ hk (fun hHeld => ?_)
  clear hK K hk
  try simp only [tpa, tpb, tpc, tpd, tpe]
  refine tr 12 fun K hK => ?_
  go_simp
  go_at_call 207
  refine (contains59' setsL _ a4 _ (by decide) hsets.out).mono ?_
  rintro e w2 ⟨rfl, hw2⟩
  have hk := hHeld.same hw2
  subst hw2
  clear hHeld
  go_wp2_with fail
  refine hK.out _ _ hk (fun hHeld => ?_)
  clear hK K hk
  try simp only [tpa, tpb, tpc, tpd, tpe]
  refine tk 13 ?_
  refine tk 14 ?_
  refine td ?_
  have hb9 := hid hHeld.below
  clear hHeld
  go_wp2_with fail
  go_ret
  exact ⟨ret_bool (by simp only [okSH_3, hp, hno, Bool.true_and, Bool.false_and]), hb9.out⟩
 by_cases h4 : a1 = 4
 ·subst h4
  go_wp2_with fail
  refine (plain58 t 4 a2 a3 a4 xa none none n xc 0 0 0 0 1 _).mono ?_
  rintro e w2 ⟨rfl, hb2⟩
  have hX2 := hid (bx_own hX.out.1 hb2)
  have hB2 := hid (below_own hX.out.2 hb2)
  clear hb2
  go_wp2_with fail
  go_ret
  exact ⟨ret_bool (by simp only [okSH_4, Bool.true_and, Bool.false_and]), hB2.out⟩
 by_cases h5 : a1 = 5
 ·subst h5
  go_wp2_with fail
  refine (plain58 t 5 a2 a3 a4 xa none ea n xc 0 0 ne ec 1 _).mono ?_
  rintro e w2 ⟨rfl, hb2⟩
  have hX2 := hid (bx_own hX.out.1 hb2)
  have hB2 := hid (below_own hX.out.2 hb2)
  clear hb2
  go_wp2_with fail
  go_ret
  exact ⟨ret_bool (by simp only [okSH_5, Bool.true_and, Bool.false_and]), hB2.out⟩
 by_cases h6 : a1 = 6
 ·subst h6
  go_wp2_with fail
  refine (plain58 t 6 a2 a3 a4 xa ba ea n xc nb bc ne ec 0 _).mono ?_
  rintro e w2 ⟨rfl, hb2⟩
  have hX2 := hid (bx_own hX.out.1 hb2)
  have hB2 := hid (below_own hX.out.2 hb2)
  clear hb2
  go_wp2_with fail
  go_ret
  exact ⟨ret_bool (by simp only [okSH_6, Bool.true_and, Bool.false_and]), hB2.out⟩
 by_cases h7 : a1 = 7
 ·subst h7
  go_wp2_with fail
  refine (plain58 t 7 a2 a3 a4 xa ba ea n xc nb bc ne ec 0 _).mono ?_
  rintro e w2 ⟨rfl, hb2⟩
  have hX2 := hid (bx_own hX.out.1 hb2)
  have hB2 := hid (below_own hX.out.2 hb2)
  clear hb2
  go_wp2_with fail
  go_ret
  exact ⟨ret_bool (by simp only [okSH_7, Bool.true_and, Bool.false_and]), hB2.out⟩
 by_cases h8 : a1 = 8
 ·subst h8
  go_wp2_with fail
  refine (plain58 t 8 a2 a3 a4 xa ba ea n xc nb bc ne ec 1 _).mono ?_
  rintro e w2 ⟨rfl, hb2⟩
  have hX2 := hid (bx_own hX.out.1 hb2)
  have hB2 := hid (below_own hX.out.2 hb2)
  clear hb2
  go_wp2_with fail
  go_ret
  exact ⟨ret_bool (by simp only [okSH_8, Bool.true_and, Bool.false_and]), hB2.out⟩
 by_cases h9 : a1 = 9
 ·subst h9
  go_wp2_with fail
  refine (plain58 t 9 a2 a3 a4 xa ba ea n xc nb bc ne ec 1 _).mono ?_
  rintro e w2 ⟨rfl, hb2⟩
  have hX2 := hid (bx_own hX.out.1 hb2)
  have hB2 := hid (below_own hX.out.2 hb2)
  clear hb2
  have p2 := hX2.out.cell 2
  have p3 := hX2.out.cell 3
  have p4 := hX2.out.cell 4
  have p5 := hX2.out.cell 5
  have pl := hX2.out.lt
  simp at p2 p3 p4 p5
  cases hp : plainS a2 a3 a4 n 1 nb ne
  ·go_wp2_with fail
   go_ret
   exact ⟨ret_bool (by simp only [okSH_9, hp, Bool.true_and, Bool.false_and]), hB2.out⟩
  have hn1 : n = 1 := by
   have : ((n : Int) == (1 : Nat)) = true := by
    simp only [plainS, Bool.and_eq_true] at hp
    exact hp.2.2.2.1
   have : (n : Int) = 1 := by simpa using this
   omega
  subst hn1
  obtain ⟨b, o, hxa, hc⟩ : ∃ b o, xa = some ⟨b, o, none⟩ ∧ w.cell? ⟨b, o + 1, none⟩ = some (.int .u8 fk) := by rcases hF.out with q | q; (· omega); (· exact q)
  subst hxa
  have hc2 := cell_on hc hB2.out
  clear hc
  go_wp2_with fail
  go_ret
  exact ⟨ret_bool (by simp only [okSH_9, hp, Bool.true_and, Bool.false_and]), hB2.out⟩
 have q1 : (a1 == 1) = false := by simpa using h1
 have q2 : (a1 == 2) = false := by simpa using h2
 have q3 : (a1 == 3) = false := by simpa using h3
 have q4 : (a1 == 4) = false := by simpa using h4
 have q5 : (a1 == 5) = false := by simpa using h5
 have q6 : (a1 == 6) = false := by simpa using h6
 have q7 : (a1 == 7) = false := by simpa using h7
 have q8 : (a1 == 8) = false := by simpa using h8
 have q9 : (a1 == 9) = false := by simpa using h9
 have hnone := hid (okSH_0 t a1 a2 a3 a4 n fk nb ne ⟨h1, h2, h3, h4, h5, h6, h7, h8, h9⟩)
 clear h1 h2 h3 h4 h5 h6 h7 h8 h9
 go_wp2_with fail
 go_ret
 exact ⟨ret_bool hnone.out.symm, hX.out.2.alloc hX.out.2.size _⟩
end
section
open Go.Shelf
def okS : Sts → Bool
 | .nil => true
 | .cons h x b e r => okSH h x.len x.fk b.len e.len && (okS b && (okS e && (okE x && okS r)))
theorem SlE.first {w : World} {p : Bool} {o : Option (Nat → Prop)} {l : Exs} {ka : Option Addr} {n cap : Nat} (h : SlE w p o l (.slice ka n cap)) : n = l.len ∧ (n = 0 ∨ ∃ b o, ka = some ⟨b, o, none⟩ ∧ w.cell? ⟨b, o + 1, none⟩ = some (.int .u8 l.fk)) := by
 obtain ⟨ka', kb, koff, kcap, hv, y2, y3⟩ := h
 cases hv
 refine ⟨rfl, ?_⟩
 cases l with
 | nil => exact .inl rfl
 | cons h k r =>
  rcases y2 with ⟨q, _⟩ | ⟨rfl, _⟩
  ·simp [Exs.len] at q
  ·have := y3.cons.1.c1
   refine .inr ⟨_, _, rfl, ?_⟩
   simpa [Exs.fk] using this
theorem SlE.shape' {w : World} {p : Bool} {o : Option (Nat → Prop)} {l : Exs} {v : Value} (h : SlE w p o l v) : ∃ a c, v = .slice a l.len c := by
 obtain ⟨ka', kb, koff, kcap, hv, y2, y3⟩ := h
 exact ⟨_, _, hv⟩
theorem SlS.shape' {w : World} {p : Bool} {o : Option (Nat → Prop)} {l : Sts} {v : Value} (h : SlS w p o l v) : ∃ a c, v = .slice a l.len c := by
 obtain ⟨ka', kb, koff, kcap, hv, y2, y3⟩ := h
 exact ⟨_, _, hv⟩
theorem okS_1 {h : SH} {x : Exs} {b e r : Sts} (h1 : okSH h x.len x.fk b.len e.len = false) : okS (.cons h x b e r) = false := by simp only [okS, h1, Bool.false_and]
theorem okS_2 {h : SH} {x : Exs} {b e r : Sts} (h1 : okS b = false) : okS (.cons h x b e r) = false := by simp only [okS, h1, Bool.false_and, Bool.and_false]
theorem okS_3 {h : SH} {x : Exs} {b e r : Sts} (h1 : okS e = false) : okS (.cons h x b e r) = false := by simp only [okS, h1, Bool.false_and, Bool.and_false]
theorem okS_4 {h : SH} {x : Exs} {b e r : Sts} (h1 : okE x = false) : okS (.cons h x b e r) = false := by simp only [okS, h1, Bool.false_and, Bool.and_false]
theorem okS_5 {h : SH} {x : Exs} {b e r : Sts} (h1 : okSH h x.len x.fk b.len e.len = true) (h2 : okS b = true) (h3 : okS e = true) (h4 : okE x = true) : okS (.cons h x b e r) = okS r := by simp only [okS, h1, h2, h3, h4, Bool.true_and]
theorem fits32 : ∀ (n : Nat) (l : Sts) (v : Value) (w : World), l.sz < n → l.sz ≤ 100000000 → l.Wf → SlS w false none l v →
  Calls Tryz.prog 137 #[v] w fun e w' => e = .returned (.bool (okS l)) ∧ Below w.heap.size w w' := by
 intro n
 induction n with
 | zero => intro l v w hn; omega
 | succ n ih =>
  have IH := hid ih
  clear ih
  intro l v w hn hs hwf hv
  obtain ⟨ka, b, off, c, rfl, hka, hin⟩ := hv
  have hl := l.len_le
  have hS := hid (And.intro hn hs)
  have hI := hid hin
  have hkb : l.len ≤ 100000000 := by omega
  have hW := hid hwf
  obtain ⟨len, hlen⟩ : ∃ m, m = l.len := ⟨_, rfl⟩
  rw [← hlen] at hka hl hkb ⊢
  have hLen := hid hlen
  clear hn hs hin hwf hlen
  go_enter Tryz.func137, Tryz.ntmps137
  go_wp2_with fail
  go_loopw [2, 9] (fun z i wr => ∃ (k : Nat) (r : Sts), z = .bool false ∧ k + r.len = len ∧ i = .int .i64 k ∧ StsIn w false none r b off k ∧ r.sz ≤ l.sz ∧ r.Wf ∧ okS l = okS r ∧ Below w.heap.size w wr) (fun _ i _ => len - (intOf i).toNat)
  case atStart => exact ⟨0, l, rfl, by have := hLen.out; omega, rfl, hI.out, Nat.le_refl _, hW.out, rfl, Below.refl _ _⟩
  case round =>
   clear hI
   obtain ⟨k, r, rfl, hk, rfl, hr, hz, hrw, hok, hb⟩ := hrel
   obtain ⟨wo, rfl⟩ : ∃ wo : World, wo = wr := ⟨_, rfl⟩
   have hB := hid hb
   have hOK := hid hok
   cases r with
   | nil =>
    simp only [Sts.len, Nat.add_zero] at hk
    subst k
    clear hr hz hrw hok hb
    go_wp2_with fail
    go_ret
    exact ⟨ret_bool hOK.out.symm, hB.out⟩
   | cons h x body els rest =>
    simp only [Sts.len, Sts.sz] at hk hz
    obtain ⟨hw1, hw2, hw3, hw4, hw5⟩ := hrw
    obtain ⟨⟨⟨t, y0, _⟩, y1, y2, y3, y4⟩, ⟨vx, y5, hx⟩, ⟨vb, y6, hbd⟩, ⟨ve, y7, he⟩, hR⟩ := hr.cons
    have x0 := cell_on y0 hb
    have x1 := cell_on y1 hb
    have x2 := cell_on y2 hb
    have x3 := cell_on y3 hb
    have x4 := cell_on y4 hb
    have x5 := cell_on y5 hb
    have x6 := cell_on y6 hb
    have x7 := cell_on y7 hb
    have hkk : k < len := by omega
    have hka2 : ka = some ⟨b, off, none⟩ := by rcases hka with q | q; (· omega); (· exact q.1)
    subst hka2
    obtain ⟨xa, xc, rfl⟩ := hx.shape'
    obtain ⟨ba, bc, rfl⟩ := hbd.shape'
    obtain ⟨ea, ec, rfl⟩ := he.shape'
    obtain ⟨xb, xo, hxa, hxin⟩ : ∃ xb xo, (x.len = 0 ∨ xa = some ⟨xb, xo, none⟩) ∧ ExsIn w false none x xb xo 0 := by
     obtain ⟨ka', kb, koff, kcap, hv, y2, y3⟩ := hx
     cases hv
     exact ⟨kb, koff, y2.imp And.left And.left, y3⟩
    have hxl := x.len_le
    have hbl := body.len_le
    have hel := els.len_le
    obtain ⟨a0, a1, a2, a3, a4⟩ := h
    have hxlen : x.len ≤ 100000000 := by have := hS.out; omega
    have hX := hid (And.intro hx (And.intro hbd he))
    have hXW := hid (And.intro hw2 (And.intro hw3 hw4))
    have hXI := hid hxin
    have hBW : Hid (∀ {w2 : World}, Below (wo.alloc (.cells #[.int .i64 t, .int .u8 a1, .string a2, .int .u8 a3, .string a4, .slice xa x.len xc, .slice ba body.len bc, .slice ea els.len ec] 109)).heap.size (wo.alloc (.cells #[.int .i64 t, .int .u8 a1, .string a2, .int .u8 a3, .string a4, .slice xa x.len xc, .slice ba body.len bc, .slice ea els.len ec] 109)) w2 → Below w.heap.size w w2) := hid (fun h => below_own hB.out h)
    have hBx := hid (Bx.new wo #[.int .i64 t, .int .u8 a1, .string a2, .int .u8 a3, .string a4, .slice xa x.len xc, .slice ba body.len bc, .slice ea els.len ec] 109)
    have hfirst := (hX.out.1.mono (hBW.out (Below.refl _ _))).first.2
    have hCall := hid (fits44 t a1 a2 a3 a4 xa ba ea x.len xc body.len bc els.len ec x.fk (wo.alloc (.cells #[.int .i64 t, .int .u8 a1, .string a2, .int .u8 a3, .string a4, .slice xa x.len xc, .slice ba body.len bc, .slice ea els.len ec] 109)) hw1 hfirst hxlen)
    have hSz := hid hz
    have hRR := hid (And.intro hR hw5)
    clear hka hr hR hz hb y0 y1 y2 y3 y4 y5 y6 y7 hok hw1 hw2 hw3 hw4 hw5 hx hbd he hxin hfirst hxl hbl hel
    go_wp2_with fail
    refine hCall.out.mono ?_
    rintro e w2 ⟨rfl, hb2⟩
    have hX2 := hid (hBx.out.on (grown_of_below hb2) (by simp))
    have hB2 := hid (hBW.out hb2)
    have p5 := hX2.out.cell 5
    have p6 := hX2.out.cell 6
    have p7 := hX2.out.cell 7
    have pl := hX2.out.lt
    simp at p5 p6 p7
    clear hb2 hCall x0 x1 x2 x3 x4 x5 x6 x7 hBW hBx
    have e1 : Hid (okSH ⟨t, a1, a2, a3, a4⟩ x.len x.fk body.len els.len = okSH ⟨a0, a1, a2, a3, a4⟩ x.len x.fk body.len els.len) := hid rfl
    cases h1 : okSH ⟨t, a1, a2, a3, a4⟩ x.len x.fk body.len els.len
    ·have hE := hid (hOK.out.trans (okS_1 (by rw [← e1.out]; exact h1)))
     go_wp2_with fail
     go_ret
     exact ⟨ret_bool hE.out.symm, hB2.out⟩
    have g1 := hid (e1.out.symm.trans h1)
    clear h1 e1
    have hCall := hid (IH.out body (.slice ba body.len bc) w2 (by have := hS.out; have := hSz.out; omega) (by have := hS.out; have := hSz.out; omega) hXW.out.2.1 (hX.out.2.1.mono hB2.out))
    go_wp2_with fail
    refine hCall.out.mono ?_
    rintro e w3 ⟨rfl, hb3⟩
    have hX3 := hid (hX2.out.on (grown_of_below hb3) (by simp))
    have hB3 := hid (hB2.out.trans (hb3.mono hB2.out.size))
    clear hb3 hCall p5 p6 p7 pl hX2 hB2
    have p5 := hX3.out.cell 5
    have p7 := hX3.out.cell 7
    simp at p5 p7
    cases h2 : okS body
    ·have hE := hid (hOK.out.trans (okS_2 h2))
     go_wp2_with fail
     go_ret
     exact ⟨ret_bool hE.out.symm, hB3.out⟩
    have g2 := hid h2
    clear h2
    have hCall := hid (IH.out els (.slice ea els.len ec) w3 (by have := hS.out; have := hSz.out; omega) (by have := hS.out; have := hSz.out; omega) hXW.out.2.2 (hX.out.2.2.mono hB3.out))
    go_wp2_with fail
    refine hCall.out.mono ?_
    rintro e w4 ⟨rfl, hb4⟩
    have hX4 := hid (hX3.out.on (grown_of_below hb4) (by simp))
    have hB4 := hid (hB3.out.trans (hb4.mono hB3.out.size))
    clear hb4 hCall p5 p7 hX3 hB3
    have p5 := hX4.out.cell 5
    simp at p5
    cases h3 : okS els
    ·have hE := hid (hOK.out.trans (okS_3 h3))
     go_wp2_with fail
     go_ret
     exact ⟨ret_bool hE.out.symm, hB4.out⟩
    have g3 := hid h3
    clear h3
    go_wp2_with fail
    clear p5
    go_loopw [2, 31] (fun z i wr => ∃ (j : Nat) (q : Exs), z = .bool false ∧ j + q.len = x.len ∧ i = .int .i64 j ∧ ExsIn w false none q xb xo j ∧ q.sz ≤ x.sz ∧ q.Wf ∧ okE x = okE q ∧ Below w.heap.size w wr) (fun _ i _ => x.len - (intOf i).toNat)
    case atStart => exact ⟨0, x, rfl, by omega, rfl, hXI.out, Nat.le_refl _, hXW.out.1, rfl, hB4.out⟩
    case round =>
     clear hXI hX4 hB4
     obtain ⟨j, q, rfl, hj, rfl, hq, hqz, hqw, hqok, hb⟩ := hrel
     have hB5 := hid hb
     have hQOK := hid hqok
     cases q with
     | nil =>
      simp only [Exs.len, Nat.add_zero] at hj
      subst j
      have hE := hid (hOK.out.trans (okS_5 g1.out g2.out g3.out hQOK.out))
      clear hq hqz hqw hqok hb
      go_wp2_with fail
      go_roundw
      case rel => exact ⟨k + 1, rest, rfl, by omega, by go_num, hRR.out.1, by have := hSz.out; omega, hRR.out.2, hE.out, hB5.out⟩
      case measure => simp [intOf]; omega
     | cons h' kids' rest' =>
      simp only [Exs.len, Exs.sz] at hj hqz
      obtain ⟨hw1, hw2, hw3⟩ := hqw
      obtain ⟨⟨⟨t', y0, _⟩, y1, y2, y3, y4, y5⟩, ⟨u, y6, hu⟩, hR'⟩ := hq.cons
      have x0 := cell_on y0 hb
      have x1 := cell_on y1 hb
      have x2 := cell_on y2 hb
      have x3 := cell_on y3 hb
      have x4 := cell_on y4 hb
      have x5 := cell_on y5 hb
      have x6 := cell_on y6 hb
      have hkj : j < x.len := by omega
      have hxa2 : xa = some ⟨xb, xo, none⟩ := by rcases hxa with q | q; (· omega); (· exact q)
      subst hxa2
      obtain ⟨ua, uc, rfl⟩ := hu.shape'
      have hal := hid ((Below.refl wr.heap.size wr).alloc (Nat.le_refl _) (.cells #[.int .i64 t', .int .u8 h'.kind, .int .u32 h'.word, .int .u8 h'.type, .string h'.name, .string h'.sign, .slice ua kids'.len uc] 134))
      have hCall := hid (fits45 _ t' h' kids' (.slice ua kids'.len uc) (wr.alloc (.cells #[.int .i64 t', .int .u8 h'.kind, .int .u32 h'.word, .int .u8 h'.type, .string h'.name, .string h'.sign, .slice ua kids'.len uc] 134)) (Nat.lt_succ_self _) (by have := hS.out; have := hSz.out; omega) hw1 hw2 (hu.mono (hb.trans (hal.out.mono hb.size))))
      have hRR' := hid (And.intro hR' (And.intro hqz hw3))
      clear hxa hq hu hR' hqz hb y0 y1 y2 y3 y4 y5 y6 hqok hw1 hw2 hw3
      go_wp2_with fail
      refine hCall.out.mono ?_
      rintro e w6 ⟨rfl, hb6⟩
      have hB6 := hid (hB5.out.trans ((hal.out.trans (hb6.mono (by simp))).mono hB5.out.size))
      clear hb6 hCall x0 x1 x2 x3 x4 x5 x6 hal
      cases hh : okE kids' && okH h' kids'.len
      ·have hE : Hid (okS l = false) := hid (hOK.out.trans (okS_4 (by rw [hQOK.out]; simp only [okE, hh]; rfl)))
       go_wp2_with fail
       go_ret
       exact ⟨ret_bool hE.out.symm, hB6.out⟩
      ·have hE : Hid (okE x = okE rest') := hid (by rw [hQOK.out]; simp only [okE, hh]; rfl)
       go_wp2_with fail
       go_roundw
       case rel => exact ⟨j + 1, rest', rfl, by omega, by go_num, hRR'.out.1, by have := hRR'.out.2.1; omega, hRR'.out.2.2, hE.out, hB6.out⟩
       case measure => simp [intOf]; omega
end
section
open Go.Shelf
end
end Go.Proofs.YtlabadkfkbenoaaGreatDoor
