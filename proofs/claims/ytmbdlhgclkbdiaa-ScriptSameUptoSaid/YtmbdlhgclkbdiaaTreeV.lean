/- ScriptSame: walks. No condition. -/
import Derived.Test.YtmbdlhgclkbdiaaTreeU
import Derived.Test.YtmbdlhgclkbdiaaTreeK
import Derived.Test.YtmbdlhgclkbdiaaTreeJ
import Derived.Test.YtmbdlhgclkbdiaaTreeI
import Derived.Test.YtmbdlhgclkbdiaaTreeL
import Derived.RegionTactic
namespace Go.Proofs.Ytmbdlhgclkbdiaa
open Go.RowKit
set_option linter.unusedVariables false
set_option linter.unusedSimpArgs false

theorem Pl.below {Z : Nat → Prop} {w w' : World} {B : Nat} (h : Pl Z w w') (hZ : ∀ b, Z b → B ≤ b) (hB : B ≤ w.heap.size) : Below B w w' := ⟨h.os, h.tape, h.output, h.size, fun k hk => h.other k (by omega) (fun q => by have := hZ k q; omega)⟩
theorem UIn.move {w w' : World} {p : Bool} {Z Z' : Nat → Prop} {u : UT} {v : Value} {row : Option Nat} (h : UIn w p (some Z) u v) (hg : w.grownBy w' row) (hr : ∀ b, Z b → some b ≠ row) (hz : ∀ b, Z b → Z' b) : UIn w' p (some Z') u v := by
  obtain ⟨vg, vh, vf, rfl, h1, h2, h3⟩ := h
  exact ⟨vg, vh, vf, rfl, SlG.move h1 hg hr hz, SlH.move h2 hg hr hz, SlF.move h3 hg hr hz⟩
theorem UIn.shape {w : World} {p : Bool} {o : Option (Nat → Prop)} {u : UT} {v : Value} (h : UIn w p o u v) : ∃ a0 n0 c0 a1 n1 c1 a2 n2 c2, v = .agg #[.slice a0 n0 c0, .slice a1 n1 c1, .slice a2 n2 c2] := by
  obtain ⟨vg, vh, vf, rfl, h1, h2, h3⟩ := h
  obtain ⟨a0, c0, rfl⟩ := h1.shape
  obtain ⟨a1, c1, rfl⟩ := h2.shape
  obtain ⟨a2, c2, rfl⟩ := h3.shape
  exact ⟨_, _, _, _, _, _, _, _, _, rfl⟩
/-- a box of a unit -/
def UB (w : World) (q : Nat) (v : Value) : Prop := ∃ c0 c1 c2, v = .agg #[c0, c1, c2] ∧ Bx w q #[c0, c1, c2] 42
theorem UB.on {w w' : World} {q : Nat} {v : Value} (h : UB w q v) (hb : Below w.heap.size w w') : UB w' q v := by
  obtain ⟨c0, c1, c2, rfl, hx⟩ := h
  exact ⟨c0, c1, c2, rfl, hx.on (grown_of_below hb) (by simp)⟩
theorem UB.cells {w : World} {q : Nat} {c0 c1 c2 : Value} (h : UB w q (.agg #[c0, c1, c2])) : w.cell? ⟨q, 0, none⟩ = some c0 ∧ w.cell? ⟨q, 1, none⟩ = some c1 ∧ w.cell? ⟨q, 2, none⟩ = some c2 := by
  obtain ⟨d0, d1, d2, he, hx⟩ := h
  cases he
  exact ⟨hx.cell 0, hx.cell 1, hx.cell 2⟩
theorem UB.lt {w : World} {q : Nat} {v : Value} (h : UB w q v) : q < w.heap.size := by
  obtain ⟨c0, c1, c2, rfl, hx⟩ := h
  exact hx.lt
theorem SU.box (w : World) (c0 c1 c2 : Value) : UB (w.alloc (.cells #[c0, c1, c2] 42)) w.heap.size (.agg #[c0, c1, c2]) := ⟨c0, c1, c2, rfl, Bx.new w _ _⟩
theorem SU.below (w : World) (c0 c1 c2 : Value) : Below w.heap.size w (w.alloc (.cells #[c0, c1, c2] 42)) := (Below.refl _ _).alloc (Nat.le_refl _) _
/-- the two arguments boxed -/
structure S2 (w wr : World) (va vb : Value) : Prop where
  b : Below w.heap.size w wr
  ba : UB wr w.heap.size va
  bb : UB wr (w.heap.size + 1) vb
theorem S2.on {w wr w' : World} {va vb : Value} (h : S2 w wr va vb) (hb : Below wr.heap.size wr w') : S2 w w' va vb := ⟨h.b.trans (hb.mono h.b.size), h.ba.on hb, h.bb.on hb⟩
/-- a copy and its box -/
structure Cp (w : World) (q : Nat) (p : Bool) (u : UT) (v : Value) : Prop where
  box : UB w q v
  u : UIn w p none u v
theorem Cp.on {w w' : World} {q : Nat} {p : Bool} {u : UT} {v : Value} (h : Cp w q p u v) (hb : Below w.heap.size w w') : Cp w' q p u v := ⟨h.box.on hb, h.u.mono hb⟩
theorem Cp.new {w2 : World} {u : UT} {c0 c1 c2 : Value} {Z : Nat → Prop} (h : UIn w2 true (some Z) u (.agg #[c0, c1, c2])) : Cp (w2.alloc (.cells #[c0, c1, c2] 42)) w2.heap.size true u (.agg #[c0, c1, c2]) := ⟨SU.box _ _ _ _, h.free.mono (SU.below _ _ _ _)⟩

structure All (w wr : World) (q7 q8 q9 : Nat) (u u' : UT) (va vb vx vy vz : Value) : Prop where
  s : S2 w wr va vb
  x : Cp wr q7 true u vx
  y : Cp wr q8 true u' vy
  z : Cp wr q9 false u vz
theorem All.on {w wr w' : World} {q7 q8 q9 : Nat} {u u' : UT} {va vb vx vy vz : Value} (h : All w wr q7 q8 q9 u u' va vb vx vy vz) (hb : Below wr.heap.size wr w') : All w w' q7 q8 q9 u u' va vb vx vy vz := ⟨h.s.on hb, h.x.on hb, h.y.on hb, h.z.on hb⟩
theorem All.cells {w wr : World} {q7 q8 q9 : Nat} {u u' : UT} {a0 a1 a2 b0 b1 b2 x0 x1 x2 y0 y1 y2 z0 z1 z2 : Value} (h : All w wr q7 q8 q9 u u' (.agg #[a0, a1, a2]) (.agg #[b0, b1, b2]) (.agg #[x0, x1, x2]) (.agg #[y0, y1, y2]) (.agg #[z0, z1, z2])) :
    ((wr.cell? ⟨w.heap.size, 0, none⟩ = some a0 ∧ wr.cell? ⟨w.heap.size, 1, none⟩ = some a1 ∧ wr.cell? ⟨w.heap.size, 2, none⟩ = some a2) ∧ (wr.cell? ⟨w.heap.size + 1, 0, none⟩ = some b0 ∧ wr.cell? ⟨w.heap.size + 1, 1, none⟩ = some b1 ∧ wr.cell? ⟨w.heap.size + 1, 2, none⟩ = some b2)) ∧
    (wr.cell? ⟨q7, 0, none⟩ = some x0 ∧ wr.cell? ⟨q7, 1, none⟩ = some x1 ∧ wr.cell? ⟨q7, 2, none⟩ = some x2) ∧ (wr.cell? ⟨q8, 0, none⟩ = some y0 ∧ wr.cell? ⟨q8, 1, none⟩ = some y1 ∧ wr.cell? ⟨q8, 2, none⟩ = some y2) ∧ (wr.cell? ⟨q9, 0, none⟩ = some z0 ∧ wr.cell? ⟨q9, 1, none⟩ = some z1 ∧ wr.cell? ⟨q9, 2, none⟩ = some z2) :=
  ⟨⟨h.s.ba.cells, h.s.bb.cells⟩, h.x.box.cells, h.y.box.cells, h.z.box.cells⟩

set_option maxHeartbeats 4000000 in
set_option maxRecDepth 100000 in
theorem same8 (u u' : UT) (v v' : Value) (at_ : Int) (w : World) (ok : u.Ok) (ok' : u'.Ok) (hv : UIn w true none u v) (hv' : UIn w true none u' v') :
    Calls Try.prog 8 #[v, v', .int .i64 at_] w fun e w' => e = .returned (.bool true) ∧ Below w.heap.size w w' := by
  obtain ⟨a0, a0n, a0c, a1, a1n, a1c, a2, a2n, a2c, rfl⟩ := hv.shape
  obtain ⟨b0, b0n, b0c, b1, b1n, b1c, b2, b2n, b2c, rfl⟩ := hv'.shape
  have OK := hid (And.intro ok ok')
  have HV := hid (And.intro hv hv')
  clear ok ok' hv hv'
  obtain ⟨w0, hw0⟩ : ∃ w0, w0 = (w.alloc (.cells #[.slice a0 a0n a0c, .slice a1 a1n a1c, .slice a2 a2n a2c] 42)).alloc (.cells #[.slice b0 b0n b0c, .slice b1 b1n b1c, .slice b2 b2n b2c] 42) := ⟨_, rfl⟩
  have hS0 : Hid (S2 w w0 (.agg #[.slice a0 a0n a0c, .slice a1 a1n a1c, .slice a2 a2n a2c]) (.agg #[.slice b0 b0n b0c, .slice b1 b1n b1c, .slice b2 b2n b2c])) := hid ⟨by rw [hw0]; exact below2 _ _ _, ⟨_, _, _, rfl, by rw [hw0]; exact (Bx.new w _ _).on (World.grownBy_alloc _ _ none) (by simp)⟩, ⟨_, _, _, rfl, by rw [hw0]; have := Bx.new (w.alloc (.cells #[.slice a0 a0n a0c, .slice a1 a1n a1c, .slice a2 a2n a2c] 42)) #[.slice b0 b0n b0c, .slice b1 b1n b1c, .slice b2 b2n b2c] 42; simpa using this⟩⟩
  go_enter Try.func8, Try.ntmps8
  go_wp2_with fail
  rw [← hw0]
  clear hw0
  refine (few22 u _ w0 OK.out.1 (HV.out.1.any.mono hS0.out.b)).mono ?_
  rintro e w1 ⟨⟨d1, rfl⟩, hb1⟩
  have hS1 := hid (hS0.out.on hb1)
  clear hb1 hS0
  obtain ⟨p0, p1, p2⟩ := hS1.out.ba.cells
  obtain ⟨q0, q1, q2⟩ := hS1.out.bb.cells
  cases d1
  · go_wp2_with fail
    go_ret
    exact ⟨rfl, hS1.out.b⟩
  go_wp2_with fail
  refine (few22 u' _ w1 OK.out.2 (HV.out.2.any.mono hS1.out.b)).mono ?_
  rintro e w2 ⟨⟨d2, rfl⟩, hb2⟩
  have hS2 := hid (hS1.out.on hb2)
  clear hb2 hS1 p0 p1 p2 q0 q1 q2
  obtain ⟨p0, p1, p2⟩ := hS2.out.ba.cells
  cases d2
  · go_wp2_with fail
    go_ret
    exact ⟨rfl, hS2.out.b⟩
  go_wp2_with fail
  refine (copy23 u _ w2 OK.out.1 (HV.out.1.mono hS2.out.b)).mono ?_
  rintro e w3 ⟨vx, rfl, hx, hg⟩
  obtain ⟨x0, x0n, x0c, x1, x1n, x1c, x2, x2n, x2c, rfl⟩ := hx.shape
  have hS3' := hS2.out.on (below_of_grown hg)
  obtain ⟨q0, q1, q2⟩ := hS3'.bb.cells
  have hlt := hS3'.bb.lt
  have hS3 := hid (hS3'.on (SU.below w3 (.slice x0 x0n x0c) (.slice x1 x1n x1c) (.slice x2 x2n x2c)))
  have hX3 := hid (Cp.new hx)
  clear hx hg hS2 hS3' p0 p1 p2
  go_wp2_with fail
  clear q0 q1 q2 hlt
  obtain ⟨w4, hw4⟩ : ∃ w4, w4 = w3.alloc (.cells #[.slice x0 x0n x0c, .slice x1 x1n x1c, .slice x2 x2n x2c] 42) := ⟨_, rfl⟩
  rw [← hw4] at hS3 hX3 ⊢
  refine (copy23 u' _ w4 OK.out.2 (HV.out.2.mono hS3.out.b)).mono ?_
  rintro e w5 ⟨vy, rfl, hy, hg⟩
  obtain ⟨y0, y0n, y0c, y1, y1n, y1c, y2, y2n, y2c, rfl⟩ := hy.shape
  have hS5' := hS3.out.on (below_of_grown hg)
  obtain ⟨p0, p1, p2⟩ := hS5'.ba.cells
  have hlt := hS5'.ba.lt
  have hX5 := hid ((hX3.out.on (below_of_grown hg)).on (SU.below w5 (.slice y0 y0n y0c) (.slice y1 y1n y1c) (.slice y2 y2n y2c)))
  have hS5 := hid (hS5'.on (SU.below w5 (.slice y0 y0n y0c) (.slice y1 y1n y1c) (.slice y2 y2n y2c)))
  have hY5 := hid (Cp.new hy)
  clear hy hg hS3 hX3 hS5' hw4
  go_wp2_with fail
  clear p0 p1 p2 hlt
  obtain ⟨w6, hw6⟩ : ∃ w6, w6 = w5.alloc (.cells #[.slice y0 y0n y0c, .slice y1 y1n y1c, .slice y2 y2n y2c] 42) := ⟨_, rfl⟩
  rw [← hw6] at hS5 hX5 hY5 ⊢
  clear hw6
  refine (copy23 u _ w6 OK.out.1 (HV.out.1.mono hS5.out.b)).mono ?_
  rintro e w7 ⟨vz, rfl, hz, hg⟩
  obtain ⟨z0, z0n, z0c, z1, z1n, z1c, z2, z2n, z2c, rfl⟩ := hz.shape
  have hlt := hS5.out.ba.lt
  obtain ⟨w8, hw8⟩ : ∃ w8, w8 = w7.alloc (.cells #[.slice z0 z0n z0c, .slice z1 z1n z1c, .slice z2 z2n z2c] 42) := ⟨_, rfl⟩
  have hU8 : Hid (UIn w8 true (some fun b => w6.heap.size ≤ b ∧ b < w7.heap.size) u (.agg #[.slice z0 z0n z0c, .slice z1 z1n z1c, .slice z2 z2n z2c])) := hid (by rw [hw8]; exact hz.move (row := none) (World.grownBy_alloc w7 _ none) (fun _ _ => by simp) (fun b hb => hb))
  have hZ8 : Hid (Bx w8 w7.heap.size #[.slice z0 z0n z0c, .slice z1 z1n z1c, .slice z2 z2n z2c] 42) := hid (by rw [hw8]; exact Bx.new _ _ _)
  have hB8 : Hid (Below w6.heap.size w6 w8) := hid (by rw [hw8]; exact (below_of_grown hg).alloc hg.size _)
  have hs8 : Hid (w8.heap.size = w7.heap.size + 1) := hid (by rw [hw8]; simp)
  have hs7 := hid hg.size
  clear hz hg hlt
  go_wp2_with fail
  rw [← hw8]
  clear hw8
  refine (place24 (fun b => w6.heap.size ≤ b ∧ b < w7.heap.size) at_ u _ w8 OK.out.1 hU8.out.any (fun b hb => by have := hs8.out; omega)).mono ?_
  rintro e w9 ⟨⟨vn, rfl⟩, hp⟩
  have hB9 := hid (hB8.out.trans (hp.below (fun b hb => hb.1) (by have := hs8.out; have := hs7.out; omega)))
  have hA9 : Hid (All w w9 w3.heap.size w5.heap.size w7.heap.size u u' _ _ _ _ _) := hid ⟨hS5.out.on hB9.out, hX5.out.on hB9.out, hY5.out.on hB9.out, ⟨_, _, _, rfl, (hp.other _ hZ8.out.lt (fun q => by omega)).trans hZ8.out⟩, (hU8.out.any.pl hp).free⟩
  clear hp hU8 hZ8 hB8 hs8 hs7 hB9 hS5 hX5 hY5
  obtain ⟨⟨⟨p0, p1, p2⟩, p3, p4, p5⟩, ⟨p6, p7, p8⟩, ⟨q0, q1, q2⟩, ⟨q3, q4, q5⟩⟩ := hA9.out.cells
  obtain ⟨c, hc⟩ : ∃ c, c = sameU false u u' := ⟨_, rfl⟩
  have hC := hid (And.intro hc (hc.trans (sameU_comm false u u')))
  clear hc
  go_wp2_with fail
  refine (unit25 u u' _ _ w9 OK.out.1 OK.out.2 (HV.out.1.any.mono hA9.out.s.b) (HV.out.2.any.mono hA9.out.s.b)).mono ?_
  rintro e w10 ⟨rfl, hb⟩
  rw [← hC.out.1]
  have hA10 := hid (hA9.out.on hb)
  clear hb hA9 p0 p1 p2 p3 p4 p5 p6 p7 p8 q0 q1 q2 q3 q4 q5
  obtain ⟨⟨⟨p0, p1, p2⟩, p3, p4, p5⟩, ⟨p6, p7, p8⟩, ⟨q0, q1, q2⟩, ⟨q3, q4, q5⟩⟩ := hA10.out.cells
  go_wp2_with fail
  refine (unit26 u u' _ _ w10 OK.out.1 OK.out.2 (hA10.out.x.u.any) (hA10.out.y.u.any)).mono ?_
  rintro e w11 ⟨rfl, hb⟩
  rw [← hC.out.1]
  have hA11 := hid (hA10.out.on hb)
  clear hb hA10 p0 p1 p2 p3 p4 p5 p6 p7 p8 q0 q1 q2 q3 q4 q5
  obtain ⟨⟨⟨p0, p1, p2⟩, p3, p4, p5⟩, ⟨p6, p7, p8⟩, ⟨q0, q1, q2⟩, ⟨q3, q4, q5⟩⟩ := hA11.out.cells
  go_wp2_with fail
  refine (unit26 u' u _ _ w11 OK.out.2 OK.out.1 (hA11.out.y.u.any) (hA11.out.x.u.any)).mono ?_
  rintro e w12 ⟨rfl, hb⟩
  rw [← hC.out.2]
  have hA12 := hid (hA11.out.on hb)
  clear hb hA11 p0 p1 p2 p3 p4 p5 p6 p7 p8 q0 q1 q2 q3 q4 q5
  obtain ⟨⟨⟨p0, p1, p2⟩, p3, p4, p5⟩, ⟨p6, p7, p8⟩, ⟨q0, q1, q2⟩, ⟨q3, q4, q5⟩⟩ := hA12.out.cells
  go_wp2_with fail
  refine (unit26 u u _ _ w12 OK.out.1 OK.out.1 (hA12.out.x.u.any) (hA12.out.z.u)).mono ?_
  rintro e w13 ⟨rfl, hb⟩
  rw [sameU_refl]
  have hA13 := hid (hA12.out.on hb)
  clear hb hA12 p0 p1 p2 p3 p4 p5 p6 p7 p8 q0 q1 q2 q3 q4 q5
  obtain ⟨⟨⟨p0, p1, p2⟩, p3, p4, p5⟩, ⟨p6, p7, p8⟩, ⟨q0, q1, q2⟩, ⟨q3, q4, q5⟩⟩ := hA13.out.cells
  go_wp2_with fail
  refine (unit26 u u _ _ w13 OK.out.1 OK.out.1 (hA13.out.z.u) (hA13.out.x.u.any)).mono ?_
  rintro e w14 ⟨rfl, hb⟩
  rw [sameU_refl]
  have hA14 := hid (hA13.out.on hb)
  clear hb hA13 p0 p1 p2 p3 p4 p5 p6 p7 p8 q0 q1 q2 q3 q4 q5
  obtain ⟨⟨⟨p0, p1, p2⟩, p3, p4, p5⟩, ⟨p6, p7, p8⟩, ⟨q0, q1, q2⟩, ⟨q3, q4, q5⟩⟩ := hA14.out.cells
  go_wp2_with fail
  refine (unit27 u u _ _ w14 OK.out.1 OK.out.1 (hA14.out.x.u) (HV.out.1.mono hA14.out.s.b)).mono ?_
  rintro e w15 ⟨rfl, hb⟩
  rw [sameU_refl]
  have hA15 := hid (hA14.out.on hb)
  clear hb hA14 p0 p1 p2 p3 p4 p5 p6 p7 p8 q0 q1 q2 q3 q4 q5
  obtain ⟨⟨⟨p0, p1, p2⟩, p3, p4, p5⟩, ⟨p6, p7, p8⟩, ⟨q0, q1, q2⟩, ⟨q3, q4, q5⟩⟩ := hA15.out.cells
  go_wp2_with fail
  refine (unit27 u' u' _ _ w15 OK.out.2 OK.out.2 (hA15.out.y.u) (HV.out.2.mono hA15.out.s.b)).mono ?_
  rintro e w16 ⟨rfl, hb⟩
  rw [sameU_refl]
  have hA16 := hid (hA15.out.on hb)
  clear hb hA15 p0 p1 p2 p3 p4 p5 p6 p7 p8 q0 q1 q2 q3 q4 q5
  obtain ⟨⟨⟨p0, p1, p2⟩, p3, p4, p5⟩, ⟨p6, p7, p8⟩, ⟨q0, q1, q2⟩, ⟨q3, q4, q5⟩⟩ := hA16.out.cells
  go_wp2_with fail
  go_ret
  exact ⟨rfl, hA16.out.s.b⟩

end Go.Proofs.Ytmbdlhgclkbdiaa
