/- Walks: the marks are there. No condition. -/
import Derived.Test.YtecpkadjnecbiaaGreatDoorProg
import Derived.Test.YtecpkadjnecbiaaGreatDoorChkO
import Derived.Outline
import Derived.Deep.QuietTactic
import Derived.BigQuiet
import Derived.Test.YtecpkadjnecbiaaGreatDoorTreeI
import Derived.Test.YtecpkadjnecbiaaGreatDoorTreeS
import Derived.Deep.RegionHeld3
namespace Go.Proofs.YtecpkadjnecbiaaGreatDoor
open Go.RowKit
set_option linter.unusedVariables false
set_option linter.unusedSimpArgs false

open Go.Shelf

theorem SlE.marked {w : World} {p : Bool} {Z : Nat → Prop} {l : Exs} {v : Value} (h : SlE w p (some Z) l v) : ∃ b cap, v = .slice (some ⟨b, 0, none⟩) l.len cap ∧ l.len < cap ∧ w.cell? ⟨b, l.len * 7, none⟩ = some (.int .i64 (-7)) := by
  obtain ⟨ka, kb, koff, kcap, rfl, y2, y3⟩ := h
  rcases y2 with q | ⟨rfl, hz⟩
  · exact nomatch q.2
  · obtain ⟨_, rfl, _, h4, h5⟩ := hz Z rfl
    exact ⟨_, _, rfl, h4, h5⟩
theorem SlS.marked {w : World} {p : Bool} {Z : Nat → Prop} {l : Sts} {v : Value} (h : SlS w p (some Z) l v) : ∃ b cap, v = .slice (some ⟨b, 0, none⟩) l.len cap ∧ l.len < cap ∧ w.cell? ⟨b, l.len * 8, none⟩ = some (.int .i64 (-7)) ∧ StsIn w p (some Z) l b 0 0 := by
  obtain ⟨ka, kb, koff, kcap, rfl, y2, y3⟩ := h
  rcases y2 with q | ⟨rfl, hz⟩
  · exact nomatch q.2
  · obtain ⟨_, rfl, _, h4, h5⟩ := hz Z rfl
    exact ⟨_, _, rfl, h4, h5, y3⟩
set_option maxRecDepth 100000 in
set_option maxHeartbeats 4000000 in
theorem intact25 (Z : Nat → Prop) : ∀ (n : Nat) (l : Sts) (v : Value) (w : World), l.sz < n → l.sz ≤ 100000000 → SlS w true (some Z) l v →
    Calls Tryz.prog 25 #[v] w fun e w' => e = .returned (.bool true) ∧ Below w.heap.size w w' := by
  intro n
  induction n with
  | zero => intro l v w hn; omega
  | succ n ih =>
    have IH := hid ih
    clear ih
    intro l v w hn hs hv
    obtain ⟨b, c, rfl, hcap, hmk, hin⟩ := hv.marked
    have hl := l.len_le
    have hS := hid (And.intro hn hs)
    have hI := hid hin
    have hkb : l.len ≤ 100000000 := by omega
    obtain ⟨len, hlen⟩ : ∃ m, m = l.len := ⟨_, rfl⟩
    rw [← hlen] at hcap hmk hl hkb ⊢
    have hLen := hid hlen
    clear hn hs hin hv hlen
    go_enter Tryz.func25, Tryz.ntmps25
    go_wp2_with fail
    clear hmk
    go_loopw [2, 4] (fun z i wr => ∃ (k : Nat) (r : Sts), z = .bool false ∧ k + r.len = len ∧ i = .int .i64 k ∧ StsIn w true (some Z) r b 0 k ∧ r.sz ≤ l.sz ∧ Below w.heap.size w wr) (fun _ i _ => len - (intOf i).toNat)
    case atStart => exact ⟨0, l, rfl, by have := hLen.out; omega, rfl, hI.out, Nat.le_refl _, Below.refl _ _⟩
    case round =>
      clear hI
      obtain ⟨k, r, rfl, hk, rfl, hr, hz, hb⟩ := hrel
      have hB := hid hb
      cases r with
      | nil =>
        simp only [Sts.len, Nat.add_zero] at hk
        subst k
        clear hr hz hb
        go_wp2_with fail
        go_ret
        exact ⟨rfl, hB.out⟩
      | cons h x body els rest =>
        simp only [Sts.len, Sts.sz] at hk hz
        obtain ⟨-, ⟨vx, y5, hx⟩, ⟨vb, y6, hbd⟩, ⟨ve, y7, he⟩, hR⟩ := hr.cons
        rw [Nat.zero_add] at y5 y6 y7
        obtain ⟨xb, xc, rfl, hxc, hxm⟩ := hx.marked
        obtain ⟨ba, bc, rfl⟩ := hbd.shape'
        obtain ⟨ea, ec, rfl⟩ := he.shape'
        have x5 := cell_on y5 hb
        have xm := cell_on hxm hb
        have hxl := x.len_le
        have hxb : x.len ≤ 100000000 := by have := hS.out; omega
        obtain ⟨nx, hnx⟩ : ∃ q, q = x.len := ⟨_, rfl⟩
        rw [← hnx] at x5 xm hxb hxc
        have hkk : k < len := by omega
        have hY := hid (And.intro y6 y7)
        have hT := hid (And.intro hbd he)
        have hRR := hid hR
        have hSz := hid hz
        have e1 : IntKind.i64.wrap ((nx : Int) + 1) = (nx : Int) + 1 := IntWalk.i64_in _ (by omega)
        have e2 : (0 : Int) ≤ (nx : Int) + 1 := by omega
        have e3 : ((nx : Int) + 1).toNat = nx + 1 := by omega
        have e4 : (nx : Int) + 1 ≤ (xc : Int) := by omega
        have e5 : (0 : Int) ≤ (k : Int) := by omega
        have e6 : (k : Int) < (len : Int) := by omega
        clear hr hx hbd he hR hz hb y5 y6 y7 hxm hnx hxl
        go_wp2_with fail
        go_quiet (fail)
        clear e1 e2 e3 e4 e5 e6
        have x6 := cell_on hY.out.1 hB.out
        go_wp2_with fail
        refine (IH.out body (.slice ba body.len bc) _ (by have := hS.out; have := hSz.out; omega) (by have := hS.out; have := hSz.out; omega) (hT.out.1.mono (below_drewN' hB.out _))).mono ?_
        rintro e w3 ⟨rfl, hb3⟩
        have hB3 := hid (show Below w.heap.size w w3 from (below_drewN' hB.out _).trans (hb3.mono (below_drewN' hB.out _).size))
        clear hb3 x5 xm x6
        have x7 := cell_on hY.out.2 hB3.out
        go_wp2_with fail
        refine (IH.out els (.slice ea els.len ec) _ (by have := hS.out; have := hSz.out; omega) (by have := hS.out; have := hSz.out; omega) (hT.out.2.mono hB3.out)).mono ?_
        rintro e w4 ⟨rfl, hb4⟩
        have hB4 := hid (hB3.out.trans (hb4.mono hB3.out.size))
        clear hb4 x7
        go_wp2_with fail
        go_roundw
        case rel => exact ⟨k + 1, rest, rfl, by omega, by go_num, hRR.out, by have := hSz.out; omega, hB4.out⟩
        case measure => simp [intOf]; omega

end Go.Proofs.YtecpkadjnecbiaaGreatDoor

namespace Go.Proofs.YtecpkadjnecbiaaGreatDoor
open Go.RowKit
set_option linter.unusedVariables false
set_option linter.unusedSimpArgs false

open Go.Shelf

theorem SlR.marked {α : Type} {w : World} {Z : Nat → Prop} {t : TypeId} {n : Nat} {R : α → Nat → Nat → Prop} {l : List α} {v : Value} (h : SlR w (some Z) t n R l v) :
    ∃ b cap, v = .slice (some ⟨b, 0, none⟩) l.length cap ∧ l.length < cap ∧ w.cell? ⟨b, l.length * n, none⟩ = some (markV t) ∧ ∀ i (h : i < l.length), R l[i] b (i * n) := by
  obtain ⟨ka, kb, koff, kcap, rfl, y2, y3⟩ := h
  rcases y2 with q | ⟨rfl, hz⟩
  · exact nomatch q.2
  · obtain ⟨_, rfl, _, h4, h5⟩ := hz Z rfl
    exact ⟨_, _, rfl, h4, h5, fun i hi => by have := y3 i hi; rwa [Nat.zero_add] at this⟩
set_option maxRecDepth 100000 in
set_option maxHeartbeats 8000000 in
theorem intact9 (Z : Nat → Prop) (u : UT) (v : Value) (w : World) (ok : u.Ok) (hv : UIn w true (some Z) u v) :
    Calls Tryz.prog 9 #[v] w fun e w' => e = .returned (.bool true) ∧ Below w.heap.size w w' := by
  obtain ⟨vg, vh, vf, rfl, hg, hh, hf⟩ := hv
  obtain ⟨gb, gc, rfl, hgc, hgm, -⟩ := hg.marked
  obtain ⟨hbk, hc, rfl, hhc, hhm, hhi⟩ := hh.marked
  obtain ⟨fb, fc, rfl, hfc, hfm, hfi⟩ := hf.marked
  have hH := hid hhi
  have hF := hid hfi
  have OK := hid ok
  have g1 := ok.g
  have g2 := ok.h
  have g3 := ok.f
  obtain ⟨mg, hmg⟩ : ∃ m, m = u.gs.length := ⟨_, rfl⟩
  obtain ⟨mh, hmh⟩ : ∃ m, m = u.hs.length := ⟨_, rfl⟩
  obtain ⟨mf, hmf⟩ : ∃ m, m = u.fs.length := ⟨_, rfl⟩
  rw [← hmg] at g1 hgc hgm ⊢
  rw [← hmh] at g2 hhc hhm ⊢
  rw [← hmf] at g3 hfc hfm ⊢
  have hMH := hid hmh
  have hMF := hid hmf
  have hX0 := hid (SB1.new (Below.refl w.heap.size w) #[.slice (some ⟨gb, 0, none⟩) mg gc, .slice (some ⟨hbk, 0, none⟩) mh hc, .slice (some ⟨fb, 0, none⟩) mf fc] 26)
  have m1 : (w.alloc (.cells #[.slice (some ⟨gb, 0, none⟩) mg gc, .slice (some ⟨hbk, 0, none⟩) mh hc, .slice (some ⟨fb, 0, none⟩) mf fc] 26)).cell? ⟨gb, mg * 5, none⟩ = some (.int .i64 (-7)) := cell_on hgm hX0.out.below
  have m2 : (w.alloc (.cells #[.slice (some ⟨gb, 0, none⟩) mg gc, .slice (some ⟨hbk, 0, none⟩) mh hc, .slice (some ⟨fb, 0, none⟩) mf fc] 26)).cell? ⟨hbk, mh * 5, none⟩ = some (.int .i64 (-7)) := cell_on hhm hX0.out.below
  have m3 : (w.alloc (.cells #[.slice (some ⟨gb, 0, none⟩) mg gc, .slice (some ⟨hbk, 0, none⟩) mh hc, .slice (some ⟨fb, 0, none⟩) mf fc] 26)).cell? ⟨fb, mf * 6, none⟩ = some (.int .i64 (-7)) := cell_on hfm hX0.out.below
  clear hg hh hf hhi hfi ok hmg hmh hmf hgm hhm hfm
  go_enter Tryz.func9, Tryz.ntmps9
  go_wp2_with fail
  clear m1 m2 m3
  go_loopw [2, 6] (fun z i wr => ∃ k : Nat, z = .bool false ∧ k ≤ mh ∧ i = .int .i64 k ∧ SB1 w w.heap.size #[.slice (some ⟨gb, 0, none⟩) mg gc, .slice (some ⟨hbk, 0, none⟩) mh hc, .slice (some ⟨fb, 0, none⟩) mf fc] 26 wr) (fun _ i _ => mh - (intOf i).toNat)
  case atStart => exact ⟨0, rfl, Nat.zero_le _, rfl, hX0.out⟩
  case round =>
    clear hX0
    obtain ⟨k, rfl, hk, rfl, hX⟩ := hrel
    have hX1 := hid hX
    have hb := hid hX.below
    have p0 := hX.box.cell 0
    have p1 := hX.box.cell 1
    have p2 := hX.box.cell 2
    simp at p0 p1 p2
    clear hX
    by_cases hlt : k < mh
    · have hlt' : k < u.hs.length := by have := hMH.out; omega
      obtain ⟨-, -, ⟨pv, y2, hpv⟩, -, -⟩ := hH.out k hlt'
      have hpl := OK.out.hp _ (List.getElem_mem hlt')
      generalize u.hs[k]'hlt' = a at *
      obtain ⟨pb, pc, rfl, hpc, hpm, -⟩ := hpv.marked
      have xm : wr.cell? ⟨pb, a.params.length * 2, none⟩ = some (.string ⟨#[109, 97, 114, 107]⟩) := cell_on hpm hb.out
      obtain ⟨np, hnp⟩ : ∃ q, q = a.params.length := ⟨_, rfl⟩
      rw [← hnp] at xm hpc y2 hpl
      have x2 := cell_on y2 hb.out
      have e1 : IntKind.i64.wrap ((np : Int) + 1) = (np : Int) + 1 := IntWalk.i64_in _ (by omega)
      have e2 : (0 : Int) ≤ (np : Int) + 1 := by omega
      have e3 : ((np : Int) + 1).toNat = np + 1 := by omega
      have e4 : (np : Int) + 1 ≤ (pc : Int) := by omega
      have e5 : (0 : Int) ≤ (k : Int) := by omega
      have e6 : (k : Int) < (mh : Int) := by omega
      clear y2 hpv hpm hnp
      go_wp2_with fail
      go_quiet (fail)
      clear e1 e2 e3 e4 e5 e6
      go_wp2_with fail
      go_roundw
      case rel => exact ⟨k + 1, rfl, by omega, by go_num, hX1.out.on (below_drewN' (Below.refl _ _) _)⟩
      case measure => simp [intOf]; omega
    · have hkm : k = mh := by omega
      subst k
      clear hlt hk hb
      go_wp2_with fail
      clear p0 p1 p2
      go_loopw [2, 8] (fun z i wr => ∃ k : Nat, z = .bool false ∧ k ≤ mf ∧ i = .int .i64 k ∧ SB1 w w.heap.size #[.slice (some ⟨gb, 0, none⟩) mg gc, .slice (some ⟨hbk, 0, none⟩) mh hc, .slice (some ⟨fb, 0, none⟩) mf fc] 26 wr) (fun _ i _ => mf - (intOf i).toNat)
      case atStart => exact ⟨0, rfl, Nat.zero_le _, rfl, hX1.out⟩
      case round =>
        clear hX1
        obtain ⟨k, rfl, hk, rfl, hX⟩ := hrel
        have hX1 := hid hX
        have hb := hid hX.below
        have p0 := hX.box.cell 0
        have p1 := hX.box.cell 1
        have p2 := hX.box.cell 2
        simp at p0 p1 p2
        clear hX
        by_cases hlt : k < mf
        · have hlt' : k < u.fs.length := by have := hMF.out; omega
          obtain ⟨-, -, ⟨pv, y2, hpv⟩, -, -, ⟨bv, y5, hbv⟩⟩ := hF.out k hlt'
          have hbl := OK.out.fb _ (List.getElem_mem hlt')
          have hpl := OK.out.fp _ (List.getElem_mem hlt')
          generalize u.fs[k]'hlt' = a at *
          obtain ⟨pb, pc, rfl, hpc, hpm, -⟩ := hpv.marked
          have xm : wr.cell? ⟨pb, a.params.length * 2, none⟩ = some (.string ⟨#[109, 97, 114, 107]⟩) := cell_on hpm hb.out
          obtain ⟨np, hnp⟩ : ∃ q, q = a.params.length := ⟨_, rfl⟩
          rw [← hnp] at xm hpc y2 hpl
          have x2 := cell_on y2 hb.out
          obtain ⟨ba, bc, rfl⟩ := hbv.shape'
          have hBD := hid (And.intro hbv (And.intro hbl y5))
          have e1 : IntKind.i64.wrap ((np : Int) + 1) = (np : Int) + 1 := IntWalk.i64_in _ (by omega)
          have e2 : (0 : Int) ≤ (np : Int) + 1 := by omega
          have e3 : ((np : Int) + 1).toNat = np + 1 := by omega
          have e4 : (np : Int) + 1 ≤ (pc : Int) := by omega
          have e5 : (0 : Int) ≤ (k : Int) := by omega
          have e6 : (k : Int) < (mf : Int) := by omega
          clear y2 hpv hpm hnp hbv hbl y5
          go_wp2_with fail
          go_quiet (fail)
          clear e1 e2 e3 e4 e5 e6
          have x5 := cell_on hBD.out.2.2 hb.out
          go_wp2_with fail
          refine (intact25 Z _ a.body (.slice ba a.body.len bc) _ (Nat.lt_succ_self _) hBD.out.2.1 (hBD.out.1.mono (below_drewN' hb.out _))).mono ?_
          rintro e w3 ⟨rfl, hb3⟩
          have hX3 := hid ((hX1.out.on (below_drewN' (Below.refl wr.heap.size wr) _)).on hb3)
          clear hb3 x5 xm x2 p0 p1 p2
          go_wp2_with fail
          go_roundw
          case rel => exact ⟨k + 1, rfl, by omega, by go_num, hX3.out⟩
          case measure => simp [intOf]; omega
        · have hkm : k = mf := by omega
          subst k
          clear hlt hk hb
          go_wp2_with fail
          go_ret
          exact ⟨rfl, hX1.out.below⟩

end Go.Proofs.YtecpkadjnecbiaaGreatDoor

namespace Go.Proofs.YtecpkadjnecbiaaGreatDoor
open Go.RowKit
set_option linter.unusedVariables false
set_option linter.unusedSimpArgs false

open Go.Shelf

theorem UIn.move {w w' : World} {p : Bool} {Z Z' : Nat → Prop} {u : UT} {v : Value} {row : Option Nat} (h : UIn w p (some Z) u v) (hg : w.grownBy w' row) (hr : ∀ b, Z b → some b ≠ row) (hz : ∀ b, Z b → Z' b) : UIn w' p (some Z') u v := by
  obtain ⟨vg, vh, vf, rfl, h1, h2, h3⟩ := h
  exact ⟨vg, vh, vf, rfl, SlG.move h1 hg hr hz, SlH.move h2 hg hr hz, SlF.move h3 hg hr hz⟩
theorem UIn.shape {w : World} {p : Bool} {o : Option (Nat → Prop)} {u : UT} {v : Value} (h : UIn w p o u v) : ∃ a0 n0 c0 a1 n1 c1 a2 n2 c2, v = .agg #[.slice a0 n0 c0, .slice a1 n1 c1, .slice a2 n2 c2] := by
  obtain ⟨vg, vh, vf, rfl, h1, h2, h3⟩ := h
  obtain ⟨a0, c0, rfl⟩ := h1.shape
  obtain ⟨a1, c1, rfl⟩ := h2.shape
  obtain ⟨a2, c2, rfl⟩ := h3.shape
  exact ⟨_, _, _, _, _, _, _, _, _, rfl⟩
structure S3 (w : World) (q : Nat) (box own : Array Value) (Z : Nat → Prop) (u : UT) (w' : World) : Prop where
  box : Bx w' w.heap.size box 26
  ownb : Bx w' q own 26
  below : Below w.heap.size w w'
  cu : UIn w' true (some Z) u (.agg own)
theorem S3.on {w w1 w2 : World} {q : Nat} {box own : Array Value} {Z : Nat → Prop} {u : UT} (h : S3 w q box own Z u w1) (hb : Below w1.heap.size w1 w2) : S3 w q box own Z u w2 :=
  ⟨h.box.on (grown_of_below hb) (by simp), h.ownb.on (grown_of_below hb) (by simp), h.below.trans (hb.mono h.below.size), h.cu.mono hb⟩
theorem S3.drew {w w1 : World} {q : Nat} {box own : Array Value} {Z : Nat → Prop} {u : UT} (h : S3 w q box own Z u w1) : S3 w q box own Z u w1.drew := h.on (Below.refl _ _).drew
theorem same8u (u : UT) (v v' : Value) (w : World) (ok : u.Ok) (hv : UIn w true none u v) (hv' : UIn w true none u v') : Calls Tryz.prog 8 #[v, v'] w fun e w' => e = .returned (.bool true) ∧ Below w.heap.size w w' := by
  have h := unit27 u u v v' w ok ok hv hv'
  rw [sameU_refl] at h
  exact h
set_option maxRecDepth 100000 in
set_option maxHeartbeats 4000000 in
theorem check3 (u : UT) (v : Value) (w : World) (ok : u.Ok) (wf : u.Wf) (hv : UIn w true none u v) :
    Calls Tryz.prog 3 #[v] w fun e w' => e = .returned (.bool true) ∧ Below w.heap.size w w' := by
  obtain ⟨a0, a0n, a0c, a1, a1n, a1c, a2, a2n, a2c, rfl⟩ := hv.shape
  have OK := hid ok
  have WF := hid wf
  have HV := hid hv
  clear ok wf hv
  have hX0 := hid (SB1.new (Below.refl w.heap.size w) #[.slice a0 a0n a0c, .slice a1 a1n a1c, .slice a2 a2n a2c] 26)
  have hfew := hid (few22 u _ _ OK.out (HV.out.any.mono hX0.out.below))
  go_enter Tryz.func3, Tryz.ntmps3
  go_wp2_with fail
  refine hfew.out.mono ?_
  rintro e w1 ⟨⟨d, rfl⟩, hb1⟩
  have hX1 := hid (hX0.out.on hb1)
  have p0 := hX1.out.box.cell 0
  have p1 := hX1.out.box.cell 1
  have p2 := hX1.out.box.cell 2
  simp at p0 p1 p2
  clear hb1 hfew hX0
  cases d
  · go_wp2_with fail
    go_ret
    exact ⟨rfl, hX1.out.below⟩
  have hcp := hid (copy23 u _ w1 OK.out (HV.out.mono hX1.out.below))
  go_wp2_with fail
  refine hcp.out.mono ?_
  rintro e w2 ⟨vx, rfl, hx, hg⟩
  obtain ⟨x0, x0n, x0c, x1, x1n, x1c, x2, x2n, x2c, rfl⟩ := hx.shape
  have hX2 := hid (hX1.out.on (below_of_grown hg))
  have hU2 := hid hx
  clear hx hg hcp p0 p1 p2 hX1
  have hS0 : Hid (S3 w w2.heap.size #[.slice a0 a0n a0c, .slice a1 a1n a1c, .slice a2 a2n a2c] #[.slice x0 x0n x0c, .slice x1 x1n x1c, .slice x2 x2n x2c] (fun b => w1.heap.size ≤ b ∧ b < w2.heap.size) u (w2.alloc (.cells #[.slice x0 x0n x0c, .slice x1 x1n x1c, .slice x2 x2n x2c] 26))) := hid
    ⟨hX2.out.box.on (World.grownBy_alloc _ _ none) (by simp), Bx.new _ _ _, hX2.out.below.alloc hX2.out.below.size _, hU2.out.move (row := none) (World.grownBy_alloc w2 _ none) (fun _ _ => by simp) (fun b hb => hb)⟩
  clear hX2 hU2
  go_wp2_with fail
  refine wp_region_held_drew (S := (S3 w w2.heap.size #[.slice a0 a0n a0c, .slice a1 a1n a1c, .slice a2 a2n a2c] #[.slice x0 x0n x0c, .slice x1 x1n x1c, .slice x2 x2n x2c] (fun b => w1.heap.size ≤ b ∧ b < w2.heap.size) u)) (by kernel_rfl) hS0.out.drew (fun hHeld => ?_)
  clear hS0
  refine wpAnyH_take (i := 0) (v := ?_) (by simp only [List.getElem?_toArray, List.getElem?_cons_succ, List.getElem?_cons_zero]; rfl) (by kernel_rfl) (by kernel_rfl) (by kernel_rfl) (by intro _ _ _ h; exact h) (Or.inl ⟨by rfl, ?_⟩) (by assumption) ?_
  rotate_left
  · intro w' hSw; have c0 := hSw.ownb.cell 0; have c1 := hSw.ownb.cell 1; have c2 := hSw.ownb.cell 2; simp at c0 c1 c2; go_simp; (try with_reducible rfl)
  try simp only [Act.put, List.setIfInBounds_toArray, List.set_cons_zero, List.set_cons_succ]
  refine wpAnyH_take (i := 2) (v := ?_) (by simp only [List.getElem?_toArray, List.getElem?_cons_succ, List.getElem?_cons_zero]; rfl) (by kernel_rfl) (by kernel_rfl) (by kernel_rfl) (by intro _ _ _ h; exact h) (Or.inl ⟨by rfl, ?_⟩) (by assumption) ?_
  rotate_left
  · intro w' hSw; have c0 := hSw.box.cell 0; have c1 := hSw.box.cell 1; have c2 := hSw.box.cell 2; simp at c0 c1 c2; go_simp; (try with_reducible rfl)
  try simp only [Act.put, List.setIfInBounds_toArray, List.set_cons_zero, List.set_cons_succ]
  refine wpAnyH_ready (rs := [1]) (by kernel_rfl) (by simp) ?_
  refine AllReadyH.cons (by simp only [List.getElem?_toArray, List.getElem?_cons_succ, List.getElem?_cons_zero]; rfl) (fun K hK => ?_) AllReadyH.nil
  go_simp
  go_at_call 6
  refine (check6 u _ _ OK.out WF.out hHeld.cu.any.free).mono ?_
  rintro e w2 ⟨rfl, hb2⟩
  have hk := hHeld.on hb2
  clear hHeld
  go_wp2_with fail
  refine hK.out _ _ hk (fun hHeld => ?_)
  clear hK K hk
  try simp only [Act.put, List.setIfInBounds_toArray, List.set_cons_zero, List.set_cons_succ]
  refine wpAnyH_ready (rs := [3]) (by kernel_rfl) (by simp) ?_
  refine AllReadyH.cons (by simp only [List.getElem?_toArray, List.getElem?_cons_succ, List.getElem?_cons_zero]; rfl) (fun K hK => ?_) AllReadyH.nil
  go_simp
  go_at_call 7
  refine (check7 u _ _ OK.out WF.out (HV.out.any.mono hHeld.below)).mono ?_
  rintro e w2 ⟨rfl, hb2⟩
  have hk := hHeld.on hb2
  clear hHeld
  go_wp2_with fail
  refine hK.out _ _ hk (fun hHeld => ?_)
  clear hK K hk
  try simp only [Act.put, List.setIfInBounds_toArray, List.set_cons_zero, List.set_cons_succ]
  refine wpAnyH_take (i := 4) (v := ?_) (by simp only [List.getElem?_toArray, List.getElem?_cons_succ, List.getElem?_cons_zero]; rfl) (by kernel_rfl) (by kernel_rfl) (by kernel_rfl) (by intro _ _ _ h; exact h) (Or.inl ⟨by rfl, ?_⟩) (by assumption) ?_
  rotate_left
  · intro w' hSw; go_simp; (try with_reducible rfl)
  try simp only [Act.put, List.setIfInBounds_toArray, List.set_cons_zero, List.set_cons_succ]
  refine wpAnyH_take (i := 5) (v := ?_) (by simp only [List.getElem?_toArray, List.getElem?_cons_succ, List.getElem?_cons_zero]; rfl) (by kernel_rfl) (by kernel_rfl) (by kernel_rfl) (by intro _ _ _ h; exact h) (Or.inl ⟨by rfl, ?_⟩) (by assumption) ?_
  rotate_left
  · intro w' hSw; go_simp; (try with_reducible rfl)
  try simp only [Act.put, List.setIfInBounds_toArray, List.set_cons_zero, List.set_cons_succ]
  refine wpAnyH_take (i := 6) (v := ?_) (by simp only [List.getElem?_toArray, List.getElem?_cons_succ, List.getElem?_cons_zero]; rfl) (by kernel_rfl) (by kernel_rfl) (by kernel_rfl) (by intro _ _ _ h; exact h) (Or.inl ⟨by rfl, ?_⟩) (by assumption) ?_
  rotate_left
  · intro w' hSw; have c0 := hSw.ownb.cell 0; have c1 := hSw.ownb.cell 1; have c2 := hSw.ownb.cell 2; simp at c0 c1 c2; go_simp; (try with_reducible rfl)
  try simp only [Act.put, List.setIfInBounds_toArray, List.set_cons_zero, List.set_cons_succ]
  refine wpAnyH_take (i := 7) (v := ?_) (by simp only [List.getElem?_toArray, List.getElem?_cons_succ, List.getElem?_cons_zero]; rfl) (by kernel_rfl) (by kernel_rfl) (by kernel_rfl) (by intro _ _ _ h; exact h) (Or.inl ⟨by rfl, ?_⟩) (by assumption) ?_
  rotate_left
  · intro w' hSw; have c0 := hSw.box.cell 0; have c1 := hSw.box.cell 1; have c2 := hSw.box.cell 2; simp at c0 c1 c2; go_simp; (try with_reducible rfl)
  try simp only [Act.put, List.setIfInBounds_toArray, List.set_cons_zero, List.set_cons_succ]
  refine wpAnyH_ready (rs := [8]) (by kernel_rfl) (by simp) ?_
  refine AllReadyH.cons (by simp only [List.getElem?_toArray, List.getElem?_cons_succ, List.getElem?_cons_zero]; rfl) (fun K hK => ?_) AllReadyH.nil
  go_simp
  go_at_call 8
  refine (same8u u _ _ _ OK.out hHeld.cu.free (HV.out.mono hHeld.below)).mono ?_
  rintro e w2 ⟨rfl, hb2⟩
  have hk := hHeld.on hb2
  clear hHeld
  go_wp2_with fail
  refine hK.out _ _ hk (fun hHeld => ?_)
  clear hK K hk
  try simp only [Act.put, List.setIfInBounds_toArray, List.set_cons_zero, List.set_cons_succ]
  refine wpAnyH_take (i := 9) (v := ?_) (by simp only [List.getElem?_toArray, List.getElem?_cons_succ, List.getElem?_cons_zero]; rfl) (by kernel_rfl) (by kernel_rfl) (by kernel_rfl) (by intro _ _ _ h; exact h) (Or.inl ⟨by rfl, ?_⟩) (by assumption) ?_
  rotate_left
  · intro w' hSw; go_simp; (try with_reducible rfl)
  try simp only [Act.put, List.setIfInBounds_toArray, List.set_cons_zero, List.set_cons_succ]
  refine wpAnyH_take (i := 10) (v := ?_) (by simp only [List.getElem?_toArray, List.getElem?_cons_succ, List.getElem?_cons_zero]; rfl) (by kernel_rfl) (by kernel_rfl) (by kernel_rfl) (by intro _ _ _ h; exact h) (Or.inl ⟨by rfl, ?_⟩) (by assumption) ?_
  rotate_left
  · intro w' hSw; go_simp; (try with_reducible rfl)
  try simp only [Act.put, List.setIfInBounds_toArray, List.set_cons_zero, List.set_cons_succ]
  refine wpAnyH_take (i := 11) (v := ?_) (by simp only [List.getElem?_toArray, List.getElem?_cons_succ, List.getElem?_cons_zero]; rfl) (by kernel_rfl) (by kernel_rfl) (by kernel_rfl) (by intro _ _ _ h; exact h) (Or.inl ⟨by rfl, ?_⟩) (by assumption) ?_
  rotate_left
  · intro w' hSw; have c0 := hSw.ownb.cell 0; have c1 := hSw.ownb.cell 1; have c2 := hSw.ownb.cell 2; simp at c0 c1 c2; go_simp; (try with_reducible rfl)
  try simp only [Act.put, List.setIfInBounds_toArray, List.set_cons_zero, List.set_cons_succ]
  refine wpAnyH_ready (rs := [12]) (by kernel_rfl) (by simp) ?_
  refine AllReadyH.cons (by simp only [List.getElem?_toArray, List.getElem?_cons_succ, List.getElem?_cons_zero]; rfl) (fun K hK => ?_) AllReadyH.nil
  go_simp
  go_at_call 9
  refine (intact9 _ u _ _ OK.out hHeld.cu).mono ?_
  rintro e w2 ⟨rfl, hb2⟩
  have hk := hHeld.on hb2
  clear hHeld
  go_wp2_with fail
  refine hK.out _ _ hk (fun hHeld => ?_)
  clear hK K hk
  try simp only [Act.put, List.setIfInBounds_toArray, List.set_cons_zero, List.set_cons_succ]
  refine wpAnyH_take (i := 13) (v := ?_) (by simp only [List.getElem?_toArray, List.getElem?_cons_succ, List.getElem?_cons_zero]; rfl) (by kernel_rfl) (by kernel_rfl) (by kernel_rfl) (by intro _ _ _ h; exact h) (Or.inl ⟨by rfl, ?_⟩) (by assumption) ?_
  rotate_left
  · intro w' hSw; go_simp; (try with_reducible rfl)
  try simp only [Act.put, List.setIfInBounds_toArray, List.set_cons_zero, List.set_cons_succ]
  refine wpAnyH_take (i := 14) (v := ?_) (by simp only [List.getElem?_toArray, List.getElem?_cons_succ, List.getElem?_cons_zero]; rfl) (by kernel_rfl) (by kernel_rfl) (by kernel_rfl) (by intro _ _ _ h; exact h) (Or.inl ⟨by rfl, ?_⟩) (by assumption) ?_
  rotate_left
  · intro w' hSw; go_simp; (try with_reducible rfl)
  try simp only [Act.put, List.setIfInBounds_toArray, List.set_cons_zero, List.set_cons_succ]
  refine wpAnyH_done (by kernel_rfl) ?_ _
  have hb9 := hid hHeld.below
  clear hHeld
  go_wp2_with fail
  go_ret
  exact ⟨rfl, hb9.out⟩

end Go.Proofs.YtecpkadjnecbiaaGreatDoor
