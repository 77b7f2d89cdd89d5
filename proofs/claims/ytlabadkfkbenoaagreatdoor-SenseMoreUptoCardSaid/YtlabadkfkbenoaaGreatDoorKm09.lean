/- Walks and plain laws, merged: SenJ SenK SenL. No condition. -/
import Derived.Outline
import Derived.Deep.RegionHeld3
import Derived.Test.YtlabadkfkbenoaaGreatDoorKm01
import Derived.Test.YtlabadkfkbenoaaGreatDoorKm08
import Derived.Defers
import Derived.Recover
import Derived.Test.YtlabadkfkbenoaaGreatDoorKm02
import Derived.Test.YtlabadkfkbenoaaGreatDoorKm03
namespace Go.Proofs.YtlabadkfkbenoaaGreatDoor
open Go.RowKit
set_option linter.unusedVariables false
set_option linter.unusedSimpArgs false
set_option maxRecDepth 100000
set_option maxHeartbeats 64000000
section
open Go.Shelf
theorem ChR.top {w0 : World} {vs : List (ByteArray × (Int × Int))} {cs : List (ByteArray × Sig)} {ret : Int} {vb cb C : Nat} {ss : List Scope} {lp : Nat} {g cap : Nat} {ms : List Nat} {st cnt : Int} {w : World} {c : Scope} (h : ChR w0 vs cs ret vb cb C (ss ++ [c]) lp g cap ms st cnt w) : ∃ m, ms[ss.length]? = some m ∧ w.cell? ⟨g, ss.length, none⟩ = some (.map (some m)) ∧ Mp w m (scv c) ∧ w0.heap.size ≤ m := by
 have hl := h.len
 simp at hl
 have hlt : ss.length < ms.length := by omega
 have h2 := h.maps ss.length hlt (by simp)
 simp only [List.getElem_append_right (Nat.le_refl _), Nat.sub_self, List.getElem_singleton] at h2
 refine ⟨ms[ss.length], by simp [hlt], ?_, h2, h.far _ (List.getElem_mem _)⟩
 rw [h.row.cellAt ss.length (by simp)]
 simp [hlt]
theorem sle_under {w0 w : World} (hb : Below w0.heap.size w0 w) {l : Exs} {v : Value} (h : SlE w0 false none l v) : SlE w false none l v := h.mono hb
theorem statement141 (w0 : World) (vs : List (ByteArray × (Int × Int))) (cs : List (ByteArray × Sig)) (ret : Int) (vb cb C : Nat) (hp : Hid (∀ s x, getM s cs = some x → x.params.length ≤ 100000000)) (n : Nat) (HL : Hid (CL w0 vs cs ret vb cb C n)) : CS w0 vs cs ret vb cb C n := by
 intro t h x body els vx ve vf ss c lp g cap ms st cnt w hbn hen hs hlp har hax hab hae hx hbd he hck
 obtain ⟨xa, xb, xo, xc, rfl, hxa, hxin⟩ := hx
 obtain ⟨ba, bc, rfl⟩ := hbd.shape'
 obtain ⟨ea, ec, rfl⟩ := he.shape'
 obtain ⟨a0, a1, a2, a3, a4⟩ := h
 have hxl := x.len_le
 have hS := hid (And.intro (And.intro hbn hen) (And.intro hs hlp))
 have hI := hid hxin
 have hkb : x.len ≤ 100000000 := by omega
 have AR := hid har
 have AX := hid hax
 have ABE := hid (And.intro hab hae)
 have HBE := hid (And.intro hbd he)
 obtain ⟨SRf, hSRf⟩ : ∃ f, f = stF vs cs ret ⟨a0, a1, a2, a3, a4⟩ x (unitE (chS vs cs ret body (ss ++ [c]) [] lp)) (unitE (chS vs cs ret els (ss ++ [c]) [] lp)) (unitE (chS vs cs ret body (ss ++ [c]) [] (lp + 1))) ss c lp := ⟨_, rfl⟩
 rw [← hSRf]
 have hSR := hid hSRf
 obtain ⟨len, hlen⟩ : ∃ m, m = x.len := ⟨_, rfl⟩
 rw [← hlen] at hxa hxl hkb ⊢
 have hLen := hid hlen
 have hb1 := hid ((Below.refl w.heap.size w).alloc (Nat.le_refl _) (.cells #[.int .i64 t, .int .u8 a1, .string a2, .int .u8 a3, .string a4, .slice xa len xc, .slice ba body.len bc, .slice ea els.len ec] 109))
 have hck1 := hck.on hb1.out
 have hbx1 := hid (Bx.new w #[.int .i64 t, .int .u8 a1, .string a2, .int .u8 a3, .string a4, .slice xa len xc, .slice ba body.len bc, .slice ea els.len ec] 109)
 have s4 := hid (hck1.box.set 4 (.int .i64 cnt))
 have hck2 := hid (hck1.turn (grown_setCell _ ⟨C, 4, none⟩ (.int .i64 cnt)) (lp' := lp) (st' := cnt) (cnt' := cnt) (by simpa using s4.out))
 have s5 := hid (hck2.out.box.set 5 (.int .i64 (wrap64 (cnt + 1))))
 have hck3 := hid (hck2.out.turn (grown_setCell _ ⟨C, 5, none⟩ (.int .i64 (wrap64 (cnt + 1)))) (lp' := lp) (st' := cnt) (cnt' := wrap64 (cnt + 1)) (by simpa using s5.out))
 have p4 := hck1.box.cell 5
 have p4b := hck1.box.cell 4
 have p5 := hck2.out.box.cell 5
 simp at p4 p4b p5
 have f4 := hck1.box.free 4
 have f5 := hck2.out.box.free 5
 have CK := hid hck
 have hCne : w.heap.size ≠ C := by have := hck.box.lt; omega
 have hbx3 := hid ((hbx1.out.on (grown_setCell _ ⟨C, 4, none⟩ (.int .i64 cnt)) (by simpa using hCne)).on (grown_setCell _ ⟨C, 5, none⟩ (.int .i64 (wrap64 (cnt + 1)))) (by simpa using hCne))
 have p6 := hbx3.out.cell 5
 simp at p6
 have hbw := hid ((((Bk.refl w0.heap.size w).then hb1.out hck.below.size).gr (grown_setCell _ ⟨C, 4, none⟩ (.int .i64 cnt)) hck1.below.size hck.at_ (fun q bs t h1 _ hq => hq.ne_box hck1.box h1)).gr (grown_setCell _ ⟨C, 5, none⟩ (.int .i64 (wrap64 (cnt + 1)))) hck2.out.below.size hck.at_ (fun q bs t h1 _ hq => hq.ne_box hck2.out.box h1))
 clear hbn hen hs hlp har hax hab hae hxin hbd he hck hlen hSRf hck1
 go_enter Tryz.func141, Tryz.ntmps141
 go_wp2_with fail
 clear hb1 hbx1 s4 s5 hck2 p4 p4b p5 p6 f4 f5
 generalize (((w.alloc (.cells #[.int .i64 t, .int .u8 a1, .string a2, .int .u8 a3, .string a4, .slice xa len xc, .slice ba body.len bc, .slice ea els.len ec] 109)).setCell ⟨C, 4, none⟩ (.int .i64 cnt)).setCell ⟨C, 5, none⟩ (.int .i64 (wrap64 (cnt + 1)))) = W2 at *
 go_loopw [4, 28] (fun z i wr => ∃ (k : Nat) (r : Exs) (ts : List Int) (z0 : Value), z0 = z ∧ k + r.len = len ∧ i = .int .i64 k ∧ ExsIn w0 false none r xb xo k ∧ r.sz ≤ x.sz ∧ arE r = true ∧ ts.length = k ∧ PreOf vs cs (ss ++ [c]) x r ts ∧ wr.ownsRow W2.heap.size 40 1 z k (ts.map (Value.int .u8)) ∧ Below W2.heap.size W2 wr) (fun _ i _ => len - (intOf i).toNat)
 case atStart => exact ⟨0, x, [], _, rfl, by have := hLen.out; omega, rfl, hI.out, Nat.le_refl _, AX.out, rfl, by unfold PreOf; cases tyE vs cs (ss ++ [c]) x <;> rfl, World.ownsRow_nil _ _ _ _, Below.refl _ _⟩
 case round =>
  clear hI
  obtain ⟨k, r, ts, z0, hz0, hk, rfl, hr, hz, hra, htl, hpre, hown, hb⟩ := hrel
  subst z0
  have hX := hid hb
  have hO := hid hown
  have hP := hid hpre
  have hTL := hid htl
  have hSz := hid hz
  have CKr := hid (hck3.out.on hb)
  have BXr := hid (hbx3.out.on (grown_of_below hb) (by simp))
  have hBr := hid (hbw.out.then hb hck3.out.below.size)
  cases r with
  | nil =>
   simp only [Exs.len, Nat.add_zero] at hk
   clear hr hz hra hb hpre hown htl
   obtain rfl : len = k := hk.symm
   have hkids := hid (show tyE vs cs (ss ++ [c]) x = .ok ts by have := hP.out; unfold PreOf at this; rw [this]; simp [tyE, pre])
   have hKS0 := (show KsR wr ts _ from ⟨W2.heap.size, by rw [hTL.out]; exact hO.out⟩)
   obtain ⟨ya, yb, yc, rfl, hya, hyc⟩ := hKS0.open
   have hYC := hid hyc
   clear hyc
   rw [hTL.out] at hya
   rw [hTL.out] at hKS0
   rw [hTL.out]
   have hKS := hid hKS0
   clear hKS0
   have p1 := BXr.out.cell 1
   have p2 := BXr.out.cell 2
   have p3 := BXr.out.cell 3
   have p4 := BXr.out.cell 4
   have p6 := BXr.out.cell 6
   have p7 := BXr.out.cell 7
   simp at p1 p2 p3 p4 p6 p7
   by_cases h6 : a1 = 6
   ·subst h6
    have q6 := CKr.out.box.cell 6
    simp at q6
    by_cases hlp0 : 0 < lp
    ·have hh := hid (show SRf = .ok c by rw [hSR.out]; simp only [stF]; rw [hkids.out]; simp [hlp0])
     have c5 := hid (ask_y 294 wr)
     go_wp2_with fail
     (try rw [show decide ((lp : Int) > 0) = true by simpa using hlp0])
     refine c5.out.mono ?_
     rintro e w3 ⟨rfl, hw⟩
     subst w3
     clear c5
     go_wp2_with fail
     go_end0
     exact ⟨c, ⟨hBr.out, by rw [hh.out]; exact ⟨rfl, _, _, _, _, _, CKr.out⟩⟩, fun c2 hc2 => by rw [hh.out] at hc2; cases hc2; rfl⟩
    ·obtain rfl : lp = 0 := by omega
     have hh := hid (show SRf = .error 294 by rw [hSR.out]; simp only [stF]; rw [hkids.out]; simp)
     have c5 := hid (ask_n 294 wr)
     go_wp2_with fail
     refine c5.out.mono ?_
     rintro e w3 ⟨rfl, hw⟩
     subst w3
     clear c5
     go_wp2_with fail
     refine bp_panic ⟨c, ⟨hBr.out, ?_⟩, fun c2 hc2 => by rw [hh.out] at hc2; cases hc2⟩
     rw [hh.out]
     exact ⟨rfl, _, by have := CKr.out.box.cell 4; simpa using this⟩
   by_cases h7 : a1 = 7
   ·subst h7
    have q6 := CKr.out.box.cell 6
    simp at q6
    by_cases hlp0 : 0 < lp
    ·have hh := hid (show SRf = .ok c by rw [hSR.out]; simp only [stF]; rw [hkids.out]; simp [hlp0])
     have c5 := hid (ask_y 294 wr)
     go_wp2_with fail
     (try rw [show decide ((lp : Int) > 0) = true by simpa using hlp0])
     refine c5.out.mono ?_
     rintro e w3 ⟨rfl, hw⟩
     subst w3
     clear c5
     go_wp2_with fail
     go_end0
     exact ⟨c, ⟨hBr.out, by rw [hh.out]; exact ⟨rfl, _, _, _, _, _, CKr.out⟩⟩, fun c2 hc2 => by rw [hh.out] at hc2; cases hc2; rfl⟩
    ·obtain rfl : lp = 0 := by omega
     have hh := hid (show SRf = .error 294 by rw [hSR.out]; simp only [stF]; rw [hkids.out]; simp)
     have c5 := hid (ask_n 294 wr)
     go_wp2_with fail
     refine c5.out.mono ?_
     rintro e w3 ⟨rfl, hw⟩
     subst w3
     clear c5
     go_wp2_with fail
     refine bp_panic ⟨c, ⟨hBr.out, ?_⟩, fun c2 hc2 => by rw [hh.out] at hc2; cases hc2⟩
     rw [hh.out]
     exact ⟨rfl, _, by have := CKr.out.box.cell 4; simpa using this⟩
   by_cases h8 : a1 = 8
   ·subst h8
    have hl0 : 0 < ts.length := by have := AR.out; have h2 := hLen.out; simp [arSH] at this; have := hTL.out; omega
    have z0 := hYC.out 0 hl0
    have hg0 : ts.getD 0 0 = ts[0] := by simp [hl0]
    clear hYC
    generalize ts[0] = k0 at z0 hg0
    have hya2 : ya = some ⟨yb, 0, none⟩ := by rcases hya with q | q; (· have := hTL.out; omega); (· exact q)
    subst ya
    have hlen0 : 0 < len := by have := hTL.out; omega
    have q3 := CKr.out.box.cell 3
    simp at q3
    go_wp2_with fail
    refine wp_region_held_drew (S := (Below wr.heap.size wr)) (by kernel_rfl) (Below.refl _ _).drew (fun hHeld => ?_)
    refine tk 0 ?_
    refine tk 1 ?_
    refine tk 2 ?_ (hy := by intro w' hSw; have q1 := cell_on z0 hSw; go_simp; (try with_reducible rfl))
    refine tk 3 ?_
    refine tk 4 ?_
    refine tk 5 ?_
    refine tk 6 ?_ (hy := by intro w' hSw; have q1 := cell_on q3 hSw; go_simp; (try with_reducible rfl))
    refine tk 7 ?_
    refine tr 8 fun K hK => ?_
    go_simp
    go_at_call 146
    by_cases hk1 : k0 = ret
    ·subst hk1
     have hh := hid (show SRf = .ok c by rw [hSR.out]; simp only [stF]; rw [hkids.out]; simp only []; rw [hg0]; simp)
     have c5 := hid (ask_y 292 wr.drew)
     rw [show (k0 == k0) = true by simp]
     refine c5.out.mono ?_
     rintro e w2 ⟨rfl, hw⟩
     subst w2
     have hk := (Below.refl wr.heap.size wr).drew
     clear hHeld c5
     go_wp2_with fail
     refine hK.out _ _ hk (fun hHeld => ?_)
     clear hK K hk
     try simp only [tpa, tpb, tpc, tpd, tpe]
     refine td ?_
     go_wp2_with fail
     go_end0
     exact ⟨c, ⟨hBr.out.then (Below.refl _ _).drew CKr.out.below.size, by rw [hh.out]; exact ⟨rfl, _, _, _, _, _, CKr.out.on (Below.refl _ _).drew⟩⟩, fun c2 hc2 => by rw [hh.out] at hc2; cases hc2; rfl⟩
    ·have hh := hid (show SRf = .error 292 by rw [hSR.out]; simp only [stF]; rw [hkids.out]; simp only []; rw [hg0]; simp [hk1])
     have c5 := hid (ask_n 292 wr.drew)
     rw [show (k0 == ret) = false by simpa using hk1]
     refine c5.out.mono ?_
     rintro e w2 ⟨rfl, hw⟩
     subst w2
     clear c5 hK hHeld
     go_wp2_with fail
     refine bp_panic ⟨c, ⟨hBr.out.then (Below.refl _ _).drew CKr.out.below.size, ?_⟩, fun c2 hc2 => by rw [hh.out] at hc2; cases hc2⟩
     rw [hh.out]
     exact ⟨rfl, _, by have := CKr.out.box.cell 4; simpa using this⟩
   by_cases h2 : a1 = 2
   ·subst h2
    have hl0 : 0 < ts.length := by have := AR.out; have h2 := hLen.out; simp [arSH] at this; have := hTL.out; omega
    have z0 := hYC.out 0 hl0
    have hg0 : ts.getD 0 0 = ts[0] := by simp [hl0]
    clear hYC
    generalize ts[0] = k0 at z0 hg0
    have hya2 : ya = some ⟨yb, 0, none⟩ := by rcases hya with q | q; (· have := hTL.out; omega); (· exact q)
    subst ya
    have hlen0 : 0 < len := by have := hTL.out; omega
    have cx := hid (variable171 a2 vs cs C (ss ++ [c]) vb cb g cap ms wr (CKr.out.ck (by have := hS.out; simp; omega)))
    cases hq : varT vs (ss ++ [c]) a2 with
    | error er =>
     have hh := hid (show SRf = .error er by rw [hSR.out]; simp only [stF]; rw [hkids.out]; simp [hq])
     rw [hq] at cx
     go_wp2_with fail
     refine cx.out.mono ?_
     rintro e w2 ⟨he, hb2⟩
     obtain rfl : e = flt er := he
     have hB2 := hid hb2
     clear hb2 cx
     go_wp2_with fail
     refine bp_panic ⟨c, ⟨hBr.out.then hB2.out CKr.out.below.size, ?_⟩, fun c2 hc2 => by rw [hh.out] at hc2; cases hc2⟩
     rw [hh.out]
     exact ⟨rfl, _, by have := (CKr.out.on hB2.out).box.cell 4; simpa using this⟩
    | ok ty =>
     rw [hq] at cx
     go_wp2_with fail
     refine cx.out.mono ?_
     rintro e w2 ⟨he, hb2⟩
     obtain rfl : e = .returned (.int .u8 ty) := he
     have hB2 := hid hb2
     have z1 := cell_on z0 hb2
     have p4b := cell_on p4 hb2
     clear hb2 cx
     by_cases hk1 : k0 = ty
     ·subst ty
      have c5 := hid (ask_y 292 w2)
      go_wp2_with fail
      refine c5.out.mono ?_
      rintro e w3 ⟨rfl, hw⟩
      subst w3
      clear c5
      go_wp2_with fail
      have cg := hid (signed172 a4 k0 w2)
      cases hsg : signT a4 k0 with
      | error er =>
       have hh := hid (show SRf = .error er by rw [hSR.out]; simp only [stF]; rw [hkids.out]; simp only []; rw [hq, hg0]; simp [hsg])
       rw [hsg] at cg
       refine cg.out.mono ?_
       rintro e w3 ⟨he, hw⟩
       obtain rfl : e = flt er := he
       subst w3
       clear cg
       go_wp2_with fail
       refine bp_panic ⟨c, ⟨hBr.out.then hB2.out CKr.out.below.size, ?_⟩, fun c2 hc2 => by rw [hh.out] at hc2; cases hc2⟩
       rw [hh.out]
       exact ⟨rfl, _, by have := (CKr.out.on hB2.out).box.cell 4; simpa using this⟩
      | ok u =>
       have hh := hid (show SRf = .ok c by rw [hSR.out]; simp only [stF]; rw [hkids.out]; simp only []; rw [hq, hg0]; simp [hsg])
       rw [hsg] at cg
       refine cg.out.mono ?_
       rintro e w3 ⟨he, hw⟩
       obtain rfl : e = .returned (.tuple #[]) := he
       subst w3
       clear cg
       go_wp2_with fail
       go_end0
       exact ⟨c, ⟨hBr.out.then hB2.out CKr.out.below.size, by rw [hh.out]; exact ⟨rfl, _, _, _, _, _, CKr.out.on hB2.out⟩⟩, fun c2 hc2 => by rw [hh.out] at hc2; cases hc2; rfl⟩
     ·have hh := hid (show SRf = .error 292 by rw [hSR.out]; simp only [stF]; rw [hkids.out]; simp only []; rw [hq, hg0]; simp [hk1])
      have c5 := hid (ask_n 292 w2)
      go_wp2_with fail
      rw [show (k0 == ty) = false by simpa using hk1]
      refine c5.out.mono ?_
      rintro e w3 ⟨rfl, hw⟩
      subst w3
      clear c5
      go_wp2_with fail
      refine bp_panic ⟨c, ⟨hBr.out.then hB2.out CKr.out.below.size, ?_⟩, fun c2 hc2 => by rw [hh.out] at hc2; cases hc2⟩
      rw [hh.out]
      exact ⟨rfl, _, by have := (CKr.out.on hB2.out).box.cell 4; simpa using this⟩
   by_cases h1 : a1 = 1
   ·subst h1
    have hl0 : 0 < ts.length := by have := AR.out; have h2 := hLen.out; simp [arSH] at this; have := hTL.out; omega
    have z0 := hYC.out 0 hl0
    have hg0 : ts.getD 0 0 = ts[0] := by simp [hl0]
    clear hYC
    generalize ts[0] = k0 at z0 hg0
    have hya2 : ya = some ⟨yb, 0, none⟩ := by rcases hya with q | q; (· have := hTL.out; omega); (· exact q)
    subst ya
    have hlen0 : 0 < len := by have := hTL.out; omega
    have c0 := CKr.out.box.cell 0
    have c1 := CKr.out.box.cell 1
    have c2 := CKr.out.box.cell 2
    obtain ⟨N, hN⟩ : ∃ N, N = (ss ++ [c]).length := ⟨_, rfl⟩
    rw [← hN] at c2
    simp at c0 c1 c2
    have hsl : (ss ++ [c]).length ≤ 100000000 := by have := hS.out; simp; omega
    have CKK := hid (CKr.out.ck hsl)
    have cx := hid (sees170 a2 g cap ms (ss ++ [c]) wr.drew (CKK.out.sc.mono (Below.refl _ _).drew) hsl)
    rw [← hN] at cx
    have HN := hid hN
    clear hN hsl
    cases hse : seesS a2 (ss ++ [c]) with
    | some tt =>
     rw [hse] at cx
     simp only [Option.getD_some, Option.isSome_some] at cx
     have hh := hid (show SRf = .error 290 by rw [hSR.out]; simp only [stF]; rw [hkids.out]; simp [hse])
     go_wp2_with fail
     refine wp_region_held_drew (S := (Below wr.heap.size wr)) (by kernel_rfl) (Below.refl _ _).drew (fun hHeld => ?_)
     refine tk 0 ?_
     refine tk 1 ?_
     refine tk 2 ?_
     refine tk 3 ?_ (hy := by intro w' hSw; have q1 := cell_on c2 hSw; go_simp; (try with_reducible rfl))
     refine tk 4 ?_
     refine tk 5 ?_ (hy := by intro w' hSw; have q1 := cell_on p2 hSw; go_simp; (try with_reducible rfl))
     refine tr 6 fun K hK => ?_
     go_simp
     go_at_call 170
     refine cx.out.mono ?_
     rintro e w2 ⟨rfl, hw⟩
     subst w2
     have hk := (Below.refl wr.heap.size wr).drew
     clear hHeld cx
     go_wp2_with fail
     refine hK.out _ _ hk (fun hHeld => ?_)
     clear hK K hk
     try simp only [tpa, tpb, tpc, tpd, tpe]
     refine tk 7 ?_
     refine tk 8 ?_
     refine tk 9 ?_
     refine tk 10 ?_
     refine tk 11 ?_
     refine td ?_
     go_wp2_with fail
     refine wp_region_held_drew (S := (Below wr.heap.size wr)) (by kernel_rfl) (Below.refl _ _).drew.drew (fun hHeld => ?_)
     refine tk 0 ?_
     refine tk 1 ?_
     refine tk 2 ?_
     refine tn 3 ?_
     refine tn 4 ?_
     refine tn 5 ?_
     refine tn 6 ?_
     refine tn 7 ?_
     refine tn 8 ?_
     refine tn 9 ?_
     refine tn 10 ?_
     refine tk 11 ?_
     refine tr 12 fun K hK => ?_
     go_simp
     go_at_call 146
     have c5 := hid (ask_n 290 wr.drew.drew)
     refine c5.out.mono ?_
     rintro e w9 ⟨rfl, hw⟩
     subst w9
     clear c5 hK hHeld
     go_wp2_with fail
     refine bp_panic ⟨c, ⟨hBr.out.then ((Below.refl wr.heap.size wr).drew.drew) CKr.out.below.size, ?_⟩, fun c2 hc2 => by rw [hh.out] at hc2; cases hc2⟩
     rw [hh.out]
     exact ⟨rfl, _, by have := (CKr.out.on ((Below.refl wr.heap.size wr).drew.drew)).box.cell 4; simpa using this⟩
    | none =>
     rw [hse] at cx
     simp only [Option.getD_none, Option.isSome_none] at cx
     have cy := hid (has73 a2 vs cs vb cb wr.drew.drew ((CKr.out.on (Below.refl _ _).drew.drew).nm.mono (CKr.out.on (Below.refl _ _).drew.drew).below))
     go_wp2_with fail
     refine wp_region_held_drew (S := (Below wr.heap.size wr)) (by kernel_rfl) (Below.refl _ _).drew (fun hHeld => ?_)
     refine tk 0 ?_
     refine tk 1 ?_
     refine tk 2 ?_
     refine tk 3 ?_ (hy := by intro w' hSw; have q1 := cell_on c2 hSw; go_simp; (try with_reducible rfl))
     refine tk 4 ?_
     refine tk 5 ?_ (hy := by intro w' hSw; have q1 := cell_on p2 hSw; go_simp; (try with_reducible rfl))
     refine tr 6 fun K hK => ?_
     go_simp
     go_at_call 170
     refine cx.out.mono ?_
     rintro e w2 ⟨rfl, hw⟩
     subst w2
     have hk := (Below.refl wr.heap.size wr).drew
     clear hHeld cx
     go_wp2_with fail
     refine hK.out _ _ hk (fun hHeld => ?_)
     clear hK K hk
     try simp only [tpa, tpb, tpc, tpd, tpe]
     refine tk 7 ?_
     refine tk 8 ?_
     refine tk 9 ?_
     refine tk 10 ?_
     refine tk 11 ?_
     refine td ?_
     go_wp2_with fail
     refine wp_region_held_drew (S := (Below wr.heap.size wr)) (by kernel_rfl) (Below.refl _ _).drew.drew (fun hHeld => ?_)
     refine tk 0 ?_
     refine tk 1 ?_
     refine tk 2 ?_
     refine tk 3 ?_
     refine tk 4 ?_
     refine tk 5 ?_
     refine tk 6 ?_ (hy := by intro w' hSw; have q1 := cell_on c0 hSw; have q2 := cell_on c1 hSw; go_simp; (try with_reducible rfl))
     refine tk 7 ?_
     refine tk 8 ?_ (hy := by intro w' hSw; have q1 := cell_on p2 hSw; go_simp; (try with_reducible rfl))
     have cy2 := cy
     clear cy
     cases hha : hasN vs cs a2 with
     | true =>
      have hh := hid (show SRf = .error 290 by rw [hSR.out]; simp only [stF]; rw [hkids.out]; simp [hha])
      rw [hha] at cy2
      refine tr 9 fun K hK => ?_
      go_simp
      go_at_call 73
      refine cy2.out.mono ?_
      rintro e w2 ⟨rfl, hb2⟩
      have hB2 := hid (((Below.refl wr.heap.size wr).drew.drew).trans hb2)
      have hk := hB2.out
      clear hHeld cy2 hb2
      go_wp2_with fail
      refine hK.out _ _ hk (fun hHeld => ?_)
      clear hK K hk
      try simp only [tpa, tpb, tpc, tpd, tpe]
      refine tk 10 ?_
      refine tk 11 ?_
      refine tr 12 fun K hK => ?_
      go_simp
      go_at_call 146
      have c5 := hid (ask_n 290 w2)
      refine c5.out.mono ?_
      rintro e w9 ⟨rfl, hw⟩
      subst w9
      clear c5 hK hHeld
      go_wp2_with fail
      refine bp_panic ⟨c, ⟨hBr.out.then (hB2.out) CKr.out.below.size, ?_⟩, fun c2 hc2 => by rw [hh.out] at hc2; cases hc2⟩
      rw [hh.out]
      exact ⟨rfl, _, by have := (CKr.out.on (hB2.out)).box.cell 4; simpa using this⟩
     | false =>
      rw [hha] at cy2
      refine tr 9 fun K hK => ?_
      go_simp
      go_at_call 73
      refine cy2.out.mono ?_
      rintro e w2 ⟨rfl, hb2⟩
      have hB2 := hid (((Below.refl wr.heap.size wr).drew.drew).trans hb2)
      have hk := hB2.out
      clear hHeld cy2 hb2
      go_wp2_with fail
      refine hK.out _ _ hk (fun hHeld => ?_)
      clear hK K hk
      try simp only [tpa, tpb, tpc, tpd, tpe]
      refine tk 10 ?_
      refine tk 11 ?_
      refine tr 12 fun K hK => ?_
      go_simp
      go_at_call 146
      have c5 := hid (ask_y 290 w2)
      refine c5.out.mono ?_
      rintro e w9 ⟨rfl, hw⟩
      subst w9
      have hk := hB2.out
      clear hHeld c5
      go_wp2_with fail
      refine hK.out _ _ hk (fun hHeld => ?_)
      clear hK K hk
      try simp only [tpa, tpb, tpc, tpd, tpe]
      refine td ?_
      have c0b := cell_on c0 hB2.out
      have c2b := cell_on c2 hB2.out
      have p2b := cell_on p2 hB2.out
      have p3b := cell_on p3 hB2.out
      have z0b := cell_on z0 hB2.out
      clear c0 c1 c2 p1 p2 p3 p4 p6 p7 z0
      go_wp2_with fail
      refine wp_region_held_drew (S := (Below w2.heap.size w2)) (by kernel_rfl) (Below.refl _ _).drew (fun hHeld => ?_)
      refine tk 0 ?_
      refine tk 1 ?_
      refine tk 2 ?_ (hy := by intro w' hSw; have q1 := cell_on z0b hSw; go_simp; (try with_reducible rfl))
      refine tk 3 ?_
      refine tk 4 ?_ (hy := by intro w' hSw; have q1 := cell_on p3b hSw; go_simp; (try with_reducible rfl))
      refine tk 5 ?_
      refine tr 6 fun K hK => ?_
      go_simp
      go_at_call 146
      by_cases hk1 : k0 = a3
      ·obtain rfl : a3 = k0 := hk1.symm
       have hh := hid (show SRf = .ok (putM a2 a3 c) by rw [hSR.out]; simp only [stF]; rw [hkids.out]; simp only []; rw [hg0]; simp [hse, hha])
       rw [show (a3 == a3) = true by simp]
       have c5 := hid (ask_y 292 w2.drew)
       refine c5.out.mono ?_
       rintro e w9 ⟨rfl, hw⟩
       subst w9
       have hk := (Below.refl w2.heap.size w2).drew
       clear hHeld c5
       go_wp2_with fail
       refine hK.out _ _ hk (fun hHeld => ?_)
       clear hK K hk
       try simp only [tpa, tpb, tpc, tpd, tpe]
       refine td ?_
       have CK3 := hid (CKr.out.on (hB2.out.drew.drew))
       obtain ⟨m, hm, hc, hM, hmf⟩ := CK3.out.top
       obtain ⟨w3, hrun, hg3, hsz3, hmp⟩ := hM.update under194 under9 a2 (.int .u8 a3)
       have hM2 := hid hM
       have hMP := hid hmp
       have hG3 := hid hg3
       have hMM := hid hm
       have c2c : w2.drew.drew.cell? ⟨C, 2, none⟩ = some (.slice (some ⟨g, 0, none⟩) (ss.length + 1) cap) := by have := HN.out; simp at this; rw [← this]; exact c2b
       have p2c : w2.drew.drew.cell? ⟨w.heap.size, 2, none⟩ = some (.string a2) := p2b
       have p3c : w2.drew.drew.cell? ⟨w.heap.size, 3, none⟩ = some (.int .u8 a3) := p3b
       have hwr : IntKind.i64.wrap (ss.length : Int) = (ss.length : Int) := IntWalk.i64_in _ (by have := hS.out; omega)
       clear hM hmp hg3 hm hg0 hmf c0b c2b p2b p3b z0b
       go_wp2_with fail
       go_region
       go_end0
       exact ⟨putM a2 a3 c, ⟨(hBr.out.then hB2.out.drew.drew CKr.out.below.size).gr hG3.out CK3.out.below.size (CK3.out.far m (List.mem_of_getElem? hMM.out)) (fun q bs t _ _ hq => (hq.not_map hM2.out).symm), by rw [hh.out]; exact ⟨rfl, _, _, _, _, _, CK3.out.give m hMM.out hG3.out hMP.out⟩⟩, fun c2 hc2 => by rw [hh.out] at hc2; cases hc2; rfl⟩
      ·have hh := hid (show SRf = .error 292 by rw [hSR.out]; simp only [stF]; rw [hkids.out]; simp only []; rw [hg0]; simp [hse, hha, hk1])
       rw [show (k0 == a3) = false by simpa using hk1]
       have c5 := hid (ask_n 292 w2.drew)
       refine c5.out.mono ?_
       rintro e w9 ⟨rfl, hw⟩
       subst w9
       clear c5 hK hHeld
       go_wp2_with fail
       refine bp_panic ⟨c, ⟨hBr.out.then (hB2.out.drew) CKr.out.below.size, ?_⟩, fun c2 hc2 => by rw [hh.out] at hc2; cases hc2⟩
       rw [hh.out]
       exact ⟨rfl, _, by have := (CKr.out.on (hB2.out.drew)).box.cell 4; simpa using this⟩
   by_cases h3 : a1 = 3
   ·subst h3
    have hl1 : 1 < ts.length := by have := AR.out; have h2 := hLen.out; simp [arSH] at this; have := hTL.out; omega
    have hl0 : 0 < ts.length := by omega
    have z0 := hYC.out 0 hl0
    have hg0 : ts.getD 0 0 = ts[0] := by simp [hl0]
    have z1 := hYC.out 1 hl1
    have hg1 : ts.getD 1 0 = ts[1] := by simp [hl1]
    clear hYC
    generalize ts[0] = k0 at z0 hg0
    generalize ts[1] = k1 at z1 hg1
    have hya2 : ya = some ⟨yb, 0, none⟩ := by rcases hya with q | q; (· have := hTL.out; omega); (· exact q)
    subst ya
    have hlen0 : 1 < len := by have := hTL.out; omega
    have hlen1 : 0 < len := by omega
    have hlen2 : (1 : Int) < (len : Int) := by omega
    have cx := hid (array173 a2 vs cs C (ss ++ [c]) vb cb g cap ms wr (CKr.out.ck (by have := hS.out; simp; omega)))
    cases hq : arrT vs (ss ++ [c]) a2 with
    | error er =>
     have hh := hid (show SRf = .error er by rw [hSR.out]; simp only [stF]; rw [hkids.out]; simp [hq])
     rw [hq] at cx
     go_wp2_with fail
     refine cx.out.mono ?_
     rintro e w2 ⟨he, hb2⟩
     obtain rfl : e = flt er := he
     have hB2 := hid hb2
     clear hb2 cx
     go_wp2_with fail
     refine bp_panic ⟨c, ⟨hBr.out.then hB2.out CKr.out.below.size, ?_⟩, fun c2 hc2 => by rw [hh.out] at hc2; cases hc2⟩
     rw [hh.out]
     exact ⟨rfl, _, by have := (CKr.out.on hB2.out).box.cell 4; simpa using this⟩
    | ok ty =>
     rw [hq] at cx
     go_wp2_with fail
     refine cx.out.mono ?_
     rintro e w2 ⟨he, hb2⟩
     obtain rfl : e = .returned (.int .u8 ty) := he
     have hB2 := hid hb2
     have z0b := cell_on z0 hb2
     have z1b := cell_on z1 hb2
     have p4b := cell_on p4 hb2
     clear hb2 cx
     by_cases hk1 : k0 = 1
     ·obtain rfl : 1 = k0 := hk1.symm
      by_cases hk2 : k1 = ty
      ·subst ty
       have c5 := hid (ask_y 292 w2)
       go_wp2_with fail
       (try rw [show (k1 == k1) = true by simp])
       refine c5.out.mono ?_
       rintro e w3 ⟨rfl, hw⟩
       subst w3
       clear c5
       go_wp2_with fail
       have cg := hid (signed172 a4 k1 w2)
       cases hsg : signT a4 k1 with
       | error er =>
        have hh := hid (show SRf = .error er by rw [hSR.out]; simp only [stF]; rw [hkids.out]; simp only []; rw [hq, hg0, hg1]; simp [hsg])
        rw [hsg] at cg
        refine cg.out.mono ?_
        rintro e w3 ⟨he, hw⟩
        obtain rfl : e = flt er := he
        subst w3
        clear cg
        go_wp2_with fail
        refine bp_panic ⟨c, ⟨hBr.out.then hB2.out CKr.out.below.size, ?_⟩, fun c2 hc2 => by rw [hh.out] at hc2; cases hc2⟩
        rw [hh.out]
        exact ⟨rfl, _, by have := (CKr.out.on hB2.out).box.cell 4; simpa using this⟩
       | ok u =>
        have hh := hid (show SRf = .ok c by rw [hSR.out]; simp only [stF]; rw [hkids.out]; simp only []; rw [hq, hg0, hg1]; simp [hsg])
        rw [hsg] at cg
        refine cg.out.mono ?_
        rintro e w3 ⟨he, hw⟩
        obtain rfl : e = .returned (.tuple #[]) := he
        subst w3
        clear cg
        go_wp2_with fail
        go_end0
        exact ⟨c, ⟨hBr.out.then hB2.out CKr.out.below.size, by rw [hh.out]; exact ⟨rfl, _, _, _, _, _, CKr.out.on hB2.out⟩⟩, fun c2 hc2 => by rw [hh.out] at hc2; cases hc2; rfl⟩
      ·have hh := hid (show SRf = .error 292 by rw [hSR.out]; simp only [stF]; rw [hkids.out]; simp only []; rw [hq, hg0, hg1]; simp [hk2])
       have c5 := hid (ask_n 292 w2)
       go_wp2_with fail
       rw [show (k1 == ty) = false by simpa using hk2]
       refine c5.out.mono ?_
       rintro e w3 ⟨rfl, hw⟩
       subst w3
       clear c5
       go_wp2_with fail
       refine bp_panic ⟨c, ⟨hBr.out.then hB2.out CKr.out.below.size, ?_⟩, fun c2 hc2 => by rw [hh.out] at hc2; cases hc2⟩
       rw [hh.out]
       exact ⟨rfl, _, by have := (CKr.out.on hB2.out).box.cell 4; simpa using this⟩
     ·have hh := hid (show SRf = .error 292 by rw [hSR.out]; simp only [stF]; rw [hkids.out]; simp only []; rw [hq, hg0, hg1]; simp [hk1])
      have c5 := hid (ask_n 292 w2)
      have hk1b : (k0 == 1) = false := by simpa using hk1
      go_wp2_with fail
      refine c5.out.mono ?_
      rintro e w3 ⟨rfl, hw⟩
      subst w3
      clear c5
      go_wp2_with fail
      refine bp_panic ⟨c, ⟨hBr.out.then hB2.out CKr.out.below.size, ?_⟩, fun c2 hc2 => by rw [hh.out] at hc2; cases hc2⟩
      rw [hh.out]
      exact ⟨rfl, _, by have := (CKr.out.on hB2.out).box.cell 4; simpa using this⟩
   by_cases h4 : a1 = 4
   ·subst h4
    have hl0 : 0 < ts.length := by have := AR.out; have h2 := hLen.out; simp [arSH] at this; have := hTL.out; omega
    have z0 := hYC.out 0 hl0
    have hg0 : ts.getD 0 0 = ts[0] := by simp [hl0]
    clear hYC
    generalize ts[0] = k0 at z0 hg0
    have hya2 : ya = some ⟨yb, 0, none⟩ := by rcases hya with q | q; (· have := hTL.out; omega); (· exact q)
    subst ya
    have hlen0 : 0 < len := by have := hTL.out; omega
    by_cases hk1 : k0 = 1
    ·obtain rfl : 1 = k0 := hk1.symm
     have hy1 := hid (And.intro hS.out (And.intro ABE.out HBE.out))
     have cl := hid (HL.out body (.slice ba body.len bc) (ss ++ [c]) lp g cap ms cnt (wrap64 (cnt + 1)) wr (by have := hS.out; omega) (by have := hS.out; simp; omega) (by have := hS.out; omega) ABE.out.1 HBE.out.1 CKr.out)
     cases hq : chS vs cs ret body (ss ++ [c]) [] lp with
     | error er =>
      have hh := hid (show SRf = .error er by rw [hSR.out]; simp only [stF]; rw [hkids.out]; simp only []; rw [hg0]; simp [unitE, hq])
      rw [hq] at cl
      have c5 := hid (ask_y 292 wr)
      go_wp2_with fail
      refine c5.out.mono ?_
      rintro e w3 ⟨rfl, hw⟩
      subst w3
      clear c5
      go_wp2_with fail
      refine cl.out.mono ?_
      rintro e w2 ⟨hb2, he, st2, hst⟩
      obtain rfl : e = flt er := he
      have hB2 := hid hb2
      have hST := hid hst
      clear hb2 cl hst
      go_wp2_with fail
      refine bp_panic ⟨c, ⟨hBr.out.trans hB2.out, ?_⟩, fun c2 hc2 => by rw [hh.out] at hc2; cases hc2⟩
      rw [hh.out]
      exact ⟨rfl, _, hST.out⟩
     | ok u =>
      rw [hq] at cl
      have c5 := hid (ask_y 292 wr)
      go_wp2_with fail
      refine c5.out.mono ?_
      rintro e w3 ⟨rfl, hw⟩
      subst w3
      clear c5
      go_wp2_with fail
      refine cl.out.mono ?_
      rintro e w2 ⟨hb2, he, g2, cap2, ms2, st2, cnt2, hck2⟩
      obtain rfl : e = .returned (.tuple #[]) := he
      have hB2 := hid hb2
      have CK2 := hid hck2
      clear hb2 cl hck2
      have BX2 := hid (hB2.out.kp _ _ 109 (by decide) (by decide) BXr.out)
      have p7b := BX2.out.cell 7
      simp at p7b
      have cl := hid (HL.out els (.slice ea els.len ec) (ss ++ [c]) lp g2 cap2 ms2 st2 cnt2 w2 (by have := hS.out; omega) (by have := hS.out; simp; omega) (by have := hS.out; omega) ABE.out.2 HBE.out.2 CK2.out)
      cases hq2 : chS vs cs ret els (ss ++ [c]) [] lp with
      | error er =>
       have hh := hid (show SRf = .error er by rw [hSR.out]; simp only [stF]; rw [hkids.out]; simp only []; rw [hg0]; simp [unitE, hq, hq2])
       rw [hq2] at cl
       go_wp2_with fail
       refine cl.out.mono ?_
       rintro e w4 ⟨hb4, he, st2, hst⟩
       obtain rfl : e = flt er := he
       have hB4 := hid hb4
       have hST := hid hst
       clear hb4 cl hst
       go_wp2_with fail
       refine bp_panic ⟨c, ⟨(hBr.out.trans hB2.out).trans hB4.out, ?_⟩, fun c2 hc2 => by rw [hh.out] at hc2; cases hc2⟩
       rw [hh.out]
       exact ⟨rfl, _, hST.out⟩
      | ok u2 =>
       have hh := hid (show SRf = .ok c by rw [hSR.out]; simp only [stF]; rw [hkids.out]; simp only []; rw [hg0]; simp [unitE, hq, hq2])
       rw [hq2] at cl
       go_wp2_with fail
       refine cl.out.mono ?_
       rintro e w4 ⟨hb4, he, g4, cap4, ms4, st4, cnt4, hck4⟩
       obtain rfl : e = .returned (.tuple #[]) := he
       have hB4 := hid hb4
       have CK4 := hid hck4
       clear hb4 cl hck4
       go_wp2_with fail
       go_end0
       exact ⟨c, ⟨(hBr.out.trans hB2.out).trans hB4.out, by rw [hh.out]; exact ⟨rfl, _, _, _, _, _, CK4.out⟩⟩, fun c2 hc2 => by rw [hh.out] at hc2; cases hc2; rfl⟩
    ·have hh := hid (show SRf = .error 292 by rw [hSR.out]; simp only [stF]; rw [hkids.out]; simp only []; rw [hg0]; simp [unitE, hk1])
     have c5 := hid (ask_n 292 wr)
     have hk1b : (k0 == 1) = false := by simpa using hk1
     go_wp2_with fail
     refine c5.out.mono ?_
     rintro e w3 ⟨rfl, hw⟩
     subst w3
     clear c5
     go_wp2_with fail
     refine bp_panic ⟨c, ⟨hBr.out, ?_⟩, fun c2 hc2 => by rw [hh.out] at hc2; cases hc2⟩
     rw [hh.out]
     exact ⟨rfl, _, by have := CKr.out.box.cell 4; simpa using this⟩
   by_cases h5 : a1 = 5
   ·subst h5
    have hl0 : 0 < ts.length := by have := AR.out; have h2 := hLen.out; simp [arSH] at this; have := hTL.out; omega
    have z0 := hYC.out 0 hl0
    have hg0 : ts.getD 0 0 = ts[0] := by simp [hl0]
    clear hYC
    generalize ts[0] = k0 at z0 hg0
    have hya2 : ya = some ⟨yb, 0, none⟩ := by rcases hya with q | q; (· have := hTL.out; omega); (· exact q)
    subst ya
    have hlen0 : 0 < len := by have := hTL.out; omega
    by_cases hk1 : k0 = 1
    ·obtain rfl : 1 = k0 := hk1.symm
     have q6 := CKr.out.box.cell 6
     simp at q6
     have f6 := CKr.out.box.free 6
     have hlb : lp ≤ 100000000 := by have := hS.out; omega
     have CK9 := hid (CKr.out.turn (grown_setCell wr ⟨C, 6, none⟩ (.int .i64 ((lp + 1 : Nat) : Int))) (lp' := lp + 1) (st' := cnt) (cnt' := wrap64 (cnt + 1)) (by simpa using CKr.out.box.set 6 (.int .i64 ((lp + 1 : Nat) : Int))))
     have hB9 := hid (hBr.out.gr (grown_setCell wr ⟨C, 6, none⟩ (.int .i64 ((lp + 1 : Nat) : Int))) CKr.out.below.size CKr.out.at_ (fun q bs t h1 _ hq => hq.ne_box CKr.out.box h1))
     have BX9 := hid (BXr.out.on (grown_setCell wr ⟨C, 6, none⟩ (.int .i64 ((lp + 1 : Nat) : Int))) (by have := BXr.out.ne_box CKr.out.box (by decide); simpa using this))
     have p6b := BX9.out.cell 6
     simp at p6b
     have hwr : IntKind.i64.wrap ((lp : Int) + 1) = ((lp + 1 : Nat) : Int) := by rw [IntWalk.i64_in _ (by omega)]; simp
     have cl := hid (HL.out body (.slice ba body.len bc) (ss ++ [c]) (lp + 1) g cap ms cnt (wrap64 (cnt + 1)) (wr.setCell ⟨C, 6, none⟩ (.int .i64 ((lp + 1 : Nat) : Int))) (by have := hS.out; omega) (by have := hS.out; simp; omega) (by have := hS.out; omega) ABE.out.1 HBE.out.1 CK9.out)
     cases hq : chS vs cs ret body (ss ++ [c]) [] (lp + 1) with
     | error er =>
      have hh := hid (show SRf = .error er by rw [hSR.out]; simp only [stF]; rw [hkids.out]; simp only []; rw [hg0]; simp [unitE, hq])
      rw [hq] at cl
      have c5 := hid (ask_y 292 wr)
      go_wp2_with fail
      refine c5.out.mono ?_
      rintro e w3 ⟨rfl, hw⟩
      subst w3
      clear c5
      go_wp2_with fail
      refine cl.out.mono ?_
      rintro e w2 ⟨hb2, he, st2, hst⟩
      obtain rfl : e = flt er := he
      have hB2 := hid hb2
      have hST := hid hst
      clear hb2 cl hst
      go_wp2_with fail
      refine bp_panic ⟨c, ⟨hB9.out.trans hB2.out, ?_⟩, fun c2 hc2 => by rw [hh.out] at hc2; cases hc2⟩
      rw [hh.out]
      exact ⟨rfl, _, hST.out⟩
     | ok u =>
      rw [hq] at cl
      have hh := hid (show SRf = .ok c by rw [hSR.out]; simp only [stF]; rw [hkids.out]; simp only []; rw [hg0]; simp [unitE, hq])
      have c5 := hid (ask_y 292 wr)
      go_wp2_with fail
      refine c5.out.mono ?_
      rintro e w3 ⟨rfl, hw⟩
      subst w3
      clear c5
      go_wp2_with fail
      refine cl.out.mono ?_
      rintro e w2 ⟨hb2, he, g2, cap2, ms2, st2, cnt2, hck2⟩
      obtain rfl : e = .returned (.tuple #[]) := he
      have hB2 := hid hb2
      have CK2 := hid hck2
      clear hb2 cl hck2 q6 f6
      have q6 := CK2.out.box.cell 6
      simp at q6
      have f6 := CK2.out.box.free 6
      have hwr2 : IntKind.i64.wrap (((lp : Int) + 1) - 1) = (lp : Int) := by rw [IntWalk.i64_in _ (by omega)]; omega
      have CK7 := hid (CK2.out.turn (grown_setCell w2 ⟨C, 6, none⟩ (.int .i64 (lp : Int))) (lp' := lp) (st' := st2) (cnt' := cnt2) (by simpa using CK2.out.box.set 6 (.int .i64 (lp : Int))))
      have hB7 := hid ((hB9.out.trans hB2.out).gr (grown_setCell w2 ⟨C, 6, none⟩ (.int .i64 (lp : Int))) CK2.out.below.size CK2.out.at_ (fun q bs t h1 _ hq => hq.ne_box CK2.out.box h1))
      go_wp2_with fail
      go_end0
      exact ⟨c, ⟨hB7.out, by rw [hh.out]; exact ⟨rfl, _, _, _, _, _, CK7.out⟩⟩, fun c2 hc2 => by rw [hh.out] at hc2; cases hc2; rfl⟩
    ·have hh := hid (show SRf = .error 292 by rw [hSR.out]; simp only [stF]; rw [hkids.out]; simp only []; rw [hg0]; simp [unitE, hk1])
     have c5 := hid (ask_n 292 wr)
     have hk1b : (k0 == 1) = false := by simpa using hk1
     go_wp2_with fail
     refine c5.out.mono ?_
     rintro e w3 ⟨rfl, hw⟩
     subst w3
     clear c5
     go_wp2_with fail
     refine bp_panic ⟨c, ⟨hBr.out, ?_⟩, fun c2 hc2 => by rw [hh.out] at hc2; cases hc2⟩
     rw [hh.out]
     exact ⟨rfl, _, by have := CKr.out.box.cell 4; simpa using this⟩
   have hh := hid (show SRf = .ok c by rw [hSR.out]; simp only [stF]; rw [hkids.out]; simp [h1, h2, h3, h4, h5, h6, h7, h8])
   go_wp2_with fail
   go_end0
   exact ⟨c, ⟨hBr.out, by rw [hh.out]; exact ⟨rfl, _, _, _, _, _, CKr.out⟩⟩, fun c2 hc2 => by rw [hh.out] at hc2; cases hc2; rfl⟩
  | cons h2 k2 rest =>
   simp only [Exs.len, Exs.sz] at hk hz
   obtain ⟨⟨⟨t2, y0, _⟩, y1, y2, y3, y4, y5⟩, ⟨vx, y6, hx2⟩, hR⟩ := hr.cons
   have hw0 := CKr.out.below
   have cw0 : ∀ {a : Addr} {u : Value}, w0.cell? a = some u → wr.cell? a = some u := fun {a u} h => (hw0.cell (World.block_lt_of_cell? w0 _ h)).trans h
   have x0 := cw0 y0
   have x1 := cw0 y1
   have x2 := cw0 y2
   have x3 := cw0 y3
   have x4 := cw0 y4
   have x5 := cw0 y5
   have x6 := cw0 y6
   have hkk : k < len := by omega
   have hka2 : xa = some ⟨xb, xo, none⟩ := by rcases hxa with q | q; (· omega); (· exact q.1)
   subst hka2
   obtain ⟨ka, kc, rfl⟩ := hx2.shape'
   obtain ⟨b0, b1, b2, b3, b4, b5⟩ := h2
   simp only [] at x0 x1 x2 x3 x4 x5 x6
   have hRR := hid hR
   have hkn := hid hk
   simp only [arE, Bool.and_eq_true] at hra
   have hRA := hid hra
   have hBW := hid (((Below.refl wr.heap.size wr).alloc (Nat.le_refl _) (.cells #[.int .i64 t2, .int .u8 b1, .int .u32 b2, .int .u8 b3, .string b4, .string b5, .slice ka k2.len kc] 134)))
   have hKB : k2.sz ≤ 100000000 := by have := hS.out; omega
   have hx3 : SlE (wr.alloc (.cells #[.int .i64 t2, .int .u8 b1, .int .u32 b2, .int .u8 b3, .string b4, .string b5, .slice ka k2.len kc] 134)) false none k2 (.slice ka k2.len kc) := sle_under (hw0.trans (hBW.out.mono hw0.size)) hx2
   have cx := hid (expr169 vs cs C (ss ++ [c]) vb cb g cap ms hp _ t2 ⟨b0, b1, b2, b3, b4, b5⟩ k2 (.slice ka k2.len kc) (wr.alloc (.cells #[.int .i64 t2, .int .u8 b1, .int .u32 b2, .int .u8 b3, .string b4, .string b5, .slice ka k2.len kc] 134)) (Nat.lt_succ_self _) hKB hra.1.1 hra.1.2 hx3 ((CKr.out.on hBW.out).ck (by have := hS.out; simp; omega)))
   clear hr hz hra hb hpre hown htl y0 y1 y2 y3 y4 y5 y6 hx2 hR hk hw0 cw0 hx3
   cases hty : tyX vs cs (ss ++ [c]) ⟨b0, b1, b2, b3, b4, b5⟩ k2 with
   | error er =>
    have hh := hid (show SRf = .error er by rw [hSR.out]; unfold stF; have := hP.out; unfold PreOf at this; rw [this, tyE_no hty])
    rw [hty] at cx
    go_wp2_with fail
    refine cx.out.mono ?_
    rintro e w2 ⟨he, hb2⟩
    obtain rfl : e = flt er := he
    have hB2 := hid (hBW.out.trans (hb2.mono hBW.out.size))
    clear hb2 cx
    go_wp2_with fail
    refine bp_panic ⟨c, ⟨hBr.out.then hB2.out CKr.out.below.size, ?_⟩, fun c2 hc2 => by rw [hh.out] at hc2; cases hc2⟩
    rw [hh.out]
    exact ⟨rfl, _, by have := (CKr.out.on hB2.out).box.cell 4; simpa using this⟩
   | ok ty =>
    rw [hty] at cx
    go_wp2_with fail
    refine cx.out.mono ?_
    rintro e w2 ⟨he, hb2⟩
    obtain rfl : e = .returned (.int .u8 ty) := he
    have hB2 := hid (hBW.out.trans (hb2.mono hBW.out.size))
    clear hb2 cx
    have hO2 := hid (ownsRow_at hO.out hB2.out)
    have hsz9 : W2.heap.size ≤ w2.heap.size := Nat.le_trans hX.out.size hB2.out.size
    go_wp2_with (at_builtin; refine wpList_append_str rfl _ _ 259 rfl W2.heap.size 40 40 (.int .u8 0) 1 1 1 Tryz.underlying259 (by kernel_rfl) rfl (by decide) _ k _ [_] (0, 0) hO2.out rfl (by simp [Value.oneCell']) (by unfold maxLen; omega) (by omega) hsz9 rfl rfl ?_; intro v' w' hA; have hA' := hid (app_below hA hO2.out hsz9); have hOw := hid hA.own; clear hA)
    have hh := hid (show PreOf vs cs (ss ++ [c]) x rest (ts ++ [ty]) by unfold PreOf; have := hP.out; unfold PreOf at this; rw [this, tyE_ok hty])
    exact ⟨⟨k + 1, rest, ts ++ [ty], _, rfl, by have := hkn.out; omega, by go_num, hRR.out, by have := hSz.out; simp only [Exs.sz] at this; omega, hRA.out.2, by simp [hTL.out], hh.out, by simpa using hOw.out, (hX.out.trans (hB2.out.mono hX.out.size)).trans hA'.out⟩, by simp only [intOf]; omega⟩
end
section
theorem assert238 (v : Value) (w : World) : (Instr.typeAssert (.iface 238 v) 20 238 true).run Tryz.prog w = .ok (.tuple #[v, .bool true]) w := by kernel_rfl
theorem eqnil238 (v : Value) (w : World) : (binOp .eql 20 (.iface 238 v) .nilIface).run Tryz.prog w = .ok (.bool false) w := by kernel_rfl
theorem caught140_p (b : Nat) (x er : Int) (older : List PanicEntry) (w : World) (hc : w.cell? ⟨b, 0, none⟩ = some (.int .i64 x)) (hz : w.frozen? ⟨b, 0, none⟩ = false) (hp : b < w.heap.size) :
  CallsD Tryz.prog 140 #[.pointer (some ⟨b, 0, none⟩)] (.panicking ({ v := .iface 238 (.agg #[.int .i64 er]), recovered := false } :: older)) w fun e u' w' =>
   e = .returned (.tuple #[]) ∧ u' = .panicking ({ v := .iface 238 (.agg #[.int .i64 er]), recovered := true } :: older) ∧ w' = (w.setCell ⟨b, 0, none⟩ (.int .i64 er)).alloc (.cells #[.int .i64 er] 238) := by
 refine callsD_of_wpS Tryz.func140 rfl fun c₀ cs hu => ?_
 apply wpS_seq
 apply wpS_region
 simp [wpOpsS, go_sem, recoverD, hu, Tryz.ntmps140, Exit.thenS]
 refine wpS_of_wp ?_
 have h1 := assert238
 have h2 := eqnil238
 have hz2 : (w.alloc (.cells #[.int .i64 er] 238)).frozen? ⟨b, 0, none⟩ = false := by rw [World.frozen?_alloc_past _ _ _ hp]; exact hz
 have hc2 : (w.alloc (.cells #[.int .i64 er] 238)).cell? ⟨b, 0, none⟩ = some (.int .i64 x) := by rw [World.cell?_alloc_past _ _ _ hp]; exact hc
 go_wp2_with fail
 simp [bodyPostS, results, Tryz.results140, go_sem]
theorem caught140_n (p : Addr) (w : World) :
  CallsD Tryz.prog 140 #[.pointer (some p)] .returning w fun e u' w' => e = .returned (.tuple #[]) ∧ u' = .returning ∧ w' = w := by
 refine callsD_of_wpS Tryz.func140 rfl fun c₀ cs hu => ?_
 apply wpS_seq
 apply wpS_region
 simp [wpOpsS, go_sem, recoverD, hu, Tryz.ntmps140, Exit.thenS]
 refine wpS_of_wp ?_
 go_wp2_with fail
 cases c₀
 simp_all [bodyPostS, results, Tryz.results140, go_sem]
theorem caught109 (pc pf : Addr) (w : World) (R : Ending → World → Prop) (h : Hid (Calls Tryz.prog 110 #[.pointer (some pc), .pointer (some pf)] (w.alloc (.cells #[.int .i64 0] 32)) R))
  (hR : Hid (∀ e w', R e w' → Bx w' w.heap.size #[.int .i64 0] 32 ∧ (e = .returned (.tuple #[]) ∨ ∃ er, e = flt er))) :
  Calls Tryz.prog 109 #[.func (.func 110) #[] #[.pointer (some pc), .pointer (some pf)]] w fun e w' => ∃ e0 w1, R e0 w1 ∧
   ((e0 = .returned (.tuple #[]) ∧ e = .returned (.int .i64 0) ∧ w' = w1.setCell ⟨w.heap.size, 0, none⟩ (.int .i64 0)) ∨
    ∃ er, e0 = flt er ∧ e = .returned (.int .i64 er) ∧ w' = (w1.setCell ⟨w.heap.size, 0, none⟩ (.int .i64 er)).alloc (.cells #[.int .i64 er] 238)) := by
 have hmf : ∀ (fn : Fn) (first cap : Array Value) (w : World), (Instr.makeFunc fn first cap).run Tryz.prog w = .ok (.func fn first cap) w := fun _ _ _ _ => rfl
 go_enter_defers Tryz.func109, Tryz.ntmps109
 go_wp2_with fail
 refine h.out.mono ?_
 intro e w1 hr
 obtain ⟨hbx, he⟩ := hR.out e w1 hr
 have HRR := hid hr
 clear hr
 have hc := hbx.cell 0
 have hz := hbx.free 0
 have hlt := hbx.lt
 simp at hc
 rcases he with rfl | ⟨er, rfl⟩
 ·go_wp2_with fail
  refine leaves_cons (f := 140) (args := #[.pointer (some ⟨w.heap.size, 0, none⟩)]) (by simp) (by simp [go_sem]) ?_
  refine (caught140_n ⟨w.heap.size, 0, none⟩ _).mono ?_
  rintro e u' w'' ⟨rfl, rfl, rfl⟩
  have hc2 : (w1.setCell ⟨w.heap.size, 0, none⟩ (.int .i64 0)).cell? ⟨w.heap.size, 0, none⟩ = some (.int .i64 0) := by simpa using (hbx.set 0 (.int .i64 0)).cell 0
  simp [Leaves, settle, results, Tryz.results109, go_sem, hc2]
  exact ⟨_, _, HRR.out, .inl ⟨rfl, rfl⟩⟩
 ·go_wp2_with fail
  refine leaves_cons (f := 140) (args := #[.pointer (some ⟨w.heap.size, 0, none⟩)]) (by simp) (by simp [go_sem]) ?_
  refine (caught140_p w.heap.size 0 er [] _ hc hz hlt).mono ?_
  rintro e u' w'' ⟨rfl, rfl, rfl⟩
  have hc2 : ((w1.setCell ⟨w.heap.size, 0, none⟩ (.int .i64 er)).alloc (.cells #[.int .i64 er] 238)).cell? ⟨w.heap.size, 0, none⟩ = some (.int .i64 er) := by
   rw [World.cell?_alloc_past _ _ _ (by simpa [World.setCell] using hlt)]
   simpa using (hbx.set 0 (.int .i64 er)).cell 0
  simp [Leaves, settle, results, Tryz.results109, go_sem, hc2]
  exact ⟨_, _, HRR.out, .inr ⟨er, rfl, rfl, rfl⟩⟩
end
section
open Go.Shelf
theorem cl_all (w0 : World) (vs : List (ByteArray × (Int × Int))) (cs : List (ByteArray × Sig)) (ret : Int) (vb cb C : Nat) (hp : Hid (∀ s x, getM s cs = some x → x.params.length ≤ 100000000)) : ∀ n, CL w0 vs cs ret vb cb C n
 | 0 => fun l _ _ _ _ _ _ _ _ _ h => by omega
 | n + 1 => list111 w0 vs cs ret vb cb C n (hid (statement141 w0 vs cs ret vb cb C hp n (hid (cl_all w0 vs cs ret vb cb C hp n))))
section
variable (vs : List (ByteArray × (Int × Int))) (cs : List (ByteArray × Sig))
def addPars : List PW → Scope → Except Int Scope
 | [], sc => .ok sc
 | p :: r, sc => if (getM p.1 sc).isSome || hasN vs cs p.1 then .error 290 else addPars r (putM p.1 p.2 sc)
def chF (f : FH) : Int :=
 match addPars vs cs f.params [] with
 | .error e => e
 | .ok sc => if 128 < f.params.length + varsS f.body then 296 else match chS vs cs f.type f.body [sc] [] 0 with
  | .error e => e
  | .ok _ => if retS f.body then 0 else 295
end
/-! ### a fault is none of nought -/
def Hi {α : Type} (x : Except Int α) : Prop := ∀ e, x = .error e → 290 ≤ e
theorem varT_hi (vs : List (ByteArray × (Int × Int))) (ss : List Scope) (s : ByteArray) : Hi (varT vs ss s) := by
 intro e h
 unfold varT at h
 split at h
 ·cases h
 ·split at h
  ·split at h <;> cases h
   omega
  ·cases h; omega
theorem arrT_hi (vs : List (ByteArray × (Int × Int))) (ss : List Scope) (s : ByteArray) : Hi (arrT vs ss s) := by
 intro e h
 unfold arrT at h
 split at h
 ·split at h <;> cases h
  omega
 ·cases h; omega
theorem binT_hi (s : ByteArray) (a b : Int) : Hi (binT s a b) := by
 intro e h
 unfold binT at h
 repeat' split at h
 all_goals cases h
 all_goals omega
theorem callT_hi (cs : List (ByteArray × Sig)) (s : ByteArray) (ks : List Int) : Hi (callT cs s ks) := by
 intro e h
 unfold callT at h
 repeat' split at h
 all_goals cases h
 all_goals omega
theorem tyH_hi (vs : List (ByteArray × (Int × Int))) (cs : List (ByteArray × Sig)) (ss : List Scope) (h : EH) (ks : List Int) : Hi (tyH vs cs ss h ks) := by
 intro e hh
 unfold tyH at hh
 split at hh
 ·cases hh
 split at hh
 ·exact varT_hi _ _ _ e hh
 split at hh
 ·split at hh
  ·rename_i er hq
   cases hh
   exact arrT_hi _ _ _ _ hq
  ·split at hh <;> cases hh
   omega
 split at hh
 ·exact callT_hi _ _ _ e hh
 split at hh
 ·split at hh <;> cases hh
  omega
 split at hh
 ·exact binT_hi _ _ _ e hh
 split at hh <;> cases hh
theorem tyE_hi (vs : List (ByteArray × (Int × Int))) (cs : List (ByteArray × Sig)) (ss : List Scope) : ∀ l : Exs, Hi (tyE vs cs ss l)
 | .nil => fun e h => by cases h
 | .cons h k r => fun e hh => by
  have i1 := tyE_hi vs cs ss k
  have i2 := tyE_hi vs cs ss r
  simp only [tyE] at hh
  split at hh
  ·rename_i er hq; cases hh; exact i1 _ hq
  ·split at hh
   ·rename_i er hq; cases hh; exact tyH_hi _ _ _ _ _ _ hq
   ·split at hh
    ·rename_i er hq; cases hh; exact i2 _ hq
    ·cases hh
theorem signT_hi (s : ByteArray) (t : Int) : Hi (signT s t) := by
 intro e h
 unfold signT at h
 split at h
 ·cases h
 ·split at h
  ·rename_i er hq; cases h; exact binT_hi _ _ _ _ hq
  ·cases h
theorem unitE_hi {α : Type} {x : Except Int α} (h : Hi x) : Hi (unitE x) := by
 intro e hh
 cases x with
 | ok a => cases hh
 | error er => cases hh; exact h _ rfl
theorem stF_hi (vs : List (ByteArray × (Int × Int))) (cs : List (ByteArray × Sig)) (ret : Int) (h : SH) (x : Exs) (rb re rw : Except Int Unit) (hb : Hi rb) (he : Hi re) (hw : Hi rw) (ss : List Scope) (c : Scope) (lp : Nat) : Hi (stF vs cs ret h x rb re rw ss c lp) := by
 intro e hh
 unfold stF at hh
 split at hh
 ·rename_i er hq; cases hh; exact tyE_hi _ _ _ _ _ hq
 repeat' split at hh
 all_goals (first | (cases hh; omega) | (cases hh; done) | skip)
 all_goals (rename_i hq; cases hh)
 all_goals (first | exact varT_hi _ _ _ _ hq | exact arrT_hi _ _ _ _ hq | exact signT_hi _ _ _ hq | exact hb _ rfl | exact he _ rfl | exact hw _ rfl)
theorem chS_hi (vs : List (ByteArray × (Int × Int))) (cs : List (ByteArray × Sig)) (ret : Int) : ∀ (l : Sts) (ss : List Scope) (c : Scope) (lp : Nat), Hi (chS vs cs ret l ss c lp)
 | .nil, _, _, _ => fun e h => by cases h
 | .cons h x b e r, ss, c, lp => fun er hh => by
  have i1 := chS_hi vs cs ret b
  have i2 := chS_hi vs cs ret e
  have i3 := chS_hi vs cs ret r
  simp only [chS] at hh
  split at hh
  ·rename_i e2 hq
   cases hh
   exact stF_hi _ _ _ _ _ _ _ _ (unitE_hi (i1 _ _ _)) (unitE_hi (i2 _ _ _)) (unitE_hi (i1 _ _ _)) _ _ _ _ hq
  ·exact i3 _ _ _ _ hh
theorem Bx.al {w : World} {q : Nat} {cs : Array Value} {t : TypeId} (h : Bx w q cs t) (o : Obj) : Bx (w.alloc o) q cs t :=
 h.on (grown_of_below ((Below.refl w.heap.size w).alloc (Nat.le_refl _) o)) (by simp)
theorem Mp.al {w : World} {b : Nat} {l : List (ByteArray × Value)} (h : Mp w b l) (o : Obj) : Mp (w.alloc o) b l := h.mono ((Below.refl w.heap.size w).alloc (Nat.le_refl _) o)
theorem closure110 (T F C : Nat) (bv : Value) (w : World) (R : Ending → World → Prop) (hT : w.cell? ⟨T, 0, none⟩ = some (.pointer (some ⟨C, 0, none⟩))) (hF : w.cell? ⟨F, 5, none⟩ = some bv) (hv : ∃ l, SlS w false none l bv)
  (h : Hid (Calls Tryz.prog 111 #[.pointer (some ⟨C, 0, none⟩), bv] w R)) (hR : Hid (∀ e w', R e w' → e = .returned (.tuple #[]) ∨ ∃ er, e = flt er)) :
  Calls Tryz.prog 110 #[.pointer (some ⟨T, 0, none⟩), .pointer (some ⟨F, 0, none⟩)] w R := by
 obtain ⟨l, hv⟩ := hv
 obtain ⟨ka, kc, rfl⟩ := hv.shape'
 clear hv
 go_enter Tryz.func110, Tryz.ntmps110
 go_wp2_with fail
 refine h.out.mono ?_
 intro e w1 hr
 have HRR := hid hr
 rcases hR.out e w1 hr with rfl | ⟨er, rfl⟩
 ·clear hr
  go_wp2_with fail
  go_end0
  exact HRR.out
 ·clear hr
  go_wp2_with fail
  exact bp_panic HRR.out
end
end Go.Proofs.YtlabadkfkbenoaaGreatDoor
