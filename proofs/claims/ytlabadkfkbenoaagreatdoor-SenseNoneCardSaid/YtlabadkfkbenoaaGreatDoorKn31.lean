/- Walks and plain laws, merged: IntJ IntK. No condition. -/
import Derived.Outline
import Derived.Deep.RegionHeld3
import Derived.Test.YtlabadkfkbenoaaGreatDoorKn01
import Derived.Test.YtlabadkfkbenoaaGreatDoorKn30
namespace Go.Proofs.YtlabadkfkbenoaaGreatDoor
open Go.RowKit
set_option linter.unusedVariables false
set_option linter.unusedSimpArgs false
set_option maxRecDepth 100000
section
open Go.Shelf
theorem arrT_ok {vs : VS} {ss : List Scope} {s : ByteArray} {t : Int} (h : arrT vs ss s = .ok t) : ∃ n, getM s vs = some (t, n) ∧ 0 < n ∧ seesS s ss = none := by
 unfold arrT at h
 split at h
 ·split at h
  ·rename_i hq h2
   cases h
   exact ⟨_, hq, h2.2, h2.1⟩
  ·cases h
 ·cases h
theorem tyH_4 {vs : VS} {cs : CSg} {ss : List Scope} {a0 a2 a3 : Int} {a4 a5 : ByteArray} {ks : List Int} {ty : Int} (h : tyH vs cs ss ⟨a0, 4, a2, a3, a4, a5⟩ ks = .ok ty) : ∃ ln, getM a4 vs = some (ty, ln) ∧ ks.getD 0 0 = 1 := by
 have e : tyH vs cs ss ⟨a0, 4, a2, a3, a4, a5⟩ ks = (match arrT vs ss a4 with | .error e => .error e | .ok t => if ks.getD 0 0 = 1 then .ok t else .error 292) := rfl
 rw [e] at h
 cases hq : arrT vs ss a4 with
 | error e => rw [hq] at h; cases h
 | ok t =>
  rw [hq] at h
  simp only [] at h
  obtain ⟨ln, q, -⟩ := arrT_ok hq
  by_cases h1 : ks.getD 0 0 = 1
  ·rw [if_pos h1] at h; cases h; exact ⟨ln, q, h1⟩
  ·rw [if_neg h1] at h; cases h
theorem tyH_6 {vs : VS} {cs : CSg} {ss : List Scope} {a0 a2 a3 : Int} {a4 a5 : ByteArray} {ks : List Int} {ty : Int} (h : tyH vs cs ss ⟨a0, 6, a2, a3, a4, a5⟩ ks = .ok ty) : ks.getD 0 0 = ty := by
 have e : tyH vs cs ss ⟨a0, 6, a2, a3, a4, a5⟩ ks = if (a5.toList == [45] || ks.getD 0 0 == 1) = true then .ok (ks.getD 0 0) else .error 292 := rfl
 rw [e] at h
 by_cases h1 : (a5.toList == [45] || ks.getD 0 0 == 1) = true
 ·rw [if_pos h1] at h; cases h; rfl
 ·rw [if_neg h1] at h; cases h
theorem tyH_7 {vs : VS} {cs : CSg} {ss : List Scope} {a0 a2 a3 : Int} {a4 a5 : ByteArray} {ks : List Int} : tyH vs cs ss ⟨a0, 7, a2, a3, a4, a5⟩ ks = binT a5 (ks.getD 0 0) (ks.getD 1 0) := rfl
section
variable {p : Pt} {cf : Cf} {u : UT} {n d : Nat} {m : MS} {ve : EvS} {F : Nat} {fb : List BSc} {g cap : Nat} {ms : List Nat} {w w' : World}
theorem CtR.b0 (h : CtR p cf u n d m ve F fb g cap ms w) : w.cell? ⟨p.M, 0, none⟩ = some (.pointer (some ⟨p.X, 0, none⟩)) := by
 obtain ⟨en, va, fa, hb⟩ := h.me.box
 simpa using hb.cell 0
theorem CtR.b10 (h : CtR p cf u n d m ve F fb g cap ms w) : w.cell? ⟨p.M, 10, none⟩ = some (.map (some p.kb)) := by
 obtain ⟨en, va, fa, hb⟩ := h.me.box
 simpa using hb.cell 10
theorem CtR.x0 (h : CtR p cf u n d m ve F fb g cap ms w) : w.cell? ⟨p.X, 0, none⟩ = some p.vg := by simpa using h.st.X.cell 0
theorem CtR.x1 (h : CtR p cf u n d m ve F fb g cap ms w) : w.cell? ⟨p.X, 1, none⟩ = some p.vh := by simpa using h.st.X.cell 1
theorem CtR.x2 (h : CtR p cf u n d m ve F fb g cap ms w) : w.cell? ⟨p.X, 2, none⟩ = some p.vf := by simpa using h.st.X.cell 2
theorem CtR.x3 (h : CtR p cf u n d m ve F fb g cap ms w) : w.cell? ⟨p.X, 3, none⟩ = some (.map (some p.vb)) := by simpa using h.st.X.cell 3
theorem CtR.x4 (h : CtR p cf u n d m ve F fb g cap ms w) : w.cell? ⟨p.X, 4, none⟩ = some (.map (some p.cb)) := by simpa using h.st.X.cell 4
theorem CtR.var (h : CtR p cf u n d m ve F fb g cap ms w) {s : ByteArray} {t ln : Int} (hv : getM s cf.vs = some (t, ln)) : (Instr.lookup 88 (.map (some p.vb)) (.string s) false).run Tryz.prog w = .ok (.agg #[.int .u8 t, .int .u32 ln]) w := by
 have l2 := (map_whole h.st.nm.vars (by simpa using h.st.lv)).lookup under88 under9 s _ (zero155 w) false
 rw [getM_map varv, hv] at l2
 simpa using l2
theorem CtR.sig (h : CtR p cf u n d m ve F fb g cap ms w) {s : ByteArray} {q : Sig} (hv : getM s cf.cs = some q) : ∃ ka kc, SlP (onlyW w (oldB p.B)) q.params (.slice ka q.params.length kc) ∧ (Instr.lookup 89 (.map (some p.cb)) (.string s) false).run Tryz.prog w = .ok (.agg #[.slice ka q.params.length kc, .int .u8 q.type, .int .i64 q.host, .int .i64 q.fn]) w := by
 obtain ⟨l, h2, h3⟩ := h.st.nm.calls
 have hl := (map_whole h2 (by simpa using h.st.lc)).lookup under89 under9 s _ (zero114 w) false
 rcases h3.get s with ⟨e1, e2⟩ | ⟨g', v, e1, e2, pv, rfl, h5⟩
 ·rw [hv] at e1; cases e1
 ·rw [hv] at e1
  cases e1
  rw [e2] at hl
  have h6 := h5
  obtain ⟨ka, kb, koff, kc, rfl, -⟩ := h6
  exact ⟨ka, kc, h5, by simpa using hl⟩
end
/-- kid i, and its row, in the whole world -/
theorem SlE.kidW {w w' : World} {B : Nat} {l : Exs} {ka : Option Addr} {len c : Nat} (h : SlE (onlyW w (oldB B)) false none l (.slice ka len c)) (i : Nat) (hi : i < l.len) :
  ∃ b off t xa xc a, l.toL[i]? = some a ∧ ka = some ⟨b, off, none⟩ ∧ KidR (onlyW w (oldB B)) b (off + i * 7) t a (.slice xa a.2.len xc) ∧ SlE (onlyW w (oldB B)) false none a.2 (.slice xa a.2.len xc) := by
 obtain ⟨a, ha⟩ := Exs.toL_get hi
 obtain ⟨b, off, cap, t, xa, xc, h1, h2, h3⟩ := h.kid i a ha
 cases h1
 exact ⟨b, off, t, xa, xc, a, ha, rfl, h2, h3⟩
set_option maxHeartbeats 16000000 in
theorem typ84 (p : Pt) (cf : Cf) (u : UT) (n d : Nat) (m : MS) (ve : EvS) (F : Nat) (fb : List BSc) (g cap : Nat) (ms : List Nat) : ∀ (N : Nat) (t : Int) (h : EH) (kids : Exs) (v : Value) (ty : Int) (w : World), kids.sz < N → XT cf (tysF fb) h kids ty →
  SlE (onlyW w (oldB p.B)) false none kids v → CtR p cf u n d m ve F fb g cap ms w →
  Calls Tryz.prog 84 #[.pointer (some ⟨p.M, 0, none⟩), .pointer (some ⟨F, 0, none⟩), aggE t h v] w fun e w' => e = .returned (.int .u8 ty) ∧ Below w.heap.size w w' := by
 intro N
 induction N with
 | zero => intro t h kids v ty w hn; omega
 | succ N ih =>
  have IH := hid ih
  clear ih
  intro t h kids v ty w hn hx hv hC
  obtain ⟨ka, kc, rfl⟩ := hv.shape'
  obtain ⟨ks, hks, hty⟩ := hx.kinds
  obtain ⟨hk, h4, h6, h7, h8, -⟩ := okH_n hx.ok
  have HN := hid (And.intro hn (And.intro hx.kids (And.intro hks hv)))
  have hB := hid ((Below.refl w.heap.size w).alloc (Nat.le_refl _) (.cells #[.int .i64 t, .int .u8 h.kind, .int .u32 h.word, .int .u8 h.type, .string h.name, .string h.sign, .slice ka kids.len kc] 134))
  have hC0 := hid (hC.below hB.out)
  obtain ⟨a0, a1, a2, a3, a4, a5⟩ := h
  simp only [] at hk h4 h6 h7 h8 hB hC0 ⊢
  have hX0 := hid (Bx.new w #[.int .i64 t, .int .u8 a1, .int .u32 a2, .int .u8 a3, .string a4, .string a5, .slice ka kids.len kc] 134)
  obtain ⟨len, hlen⟩ : ∃ q, q = kids.len := ⟨_, rfl⟩
  rw [← hlen] at h4 h6 h7 h8 hB hC0 hX0 ⊢
  have hLen := hid hlen
  have H4 := hid h4
  have H6 := hid h6
  have H7 := hid h7
  have H8 := hid h8
  have HC := hid hC
  have HV := hid hv
  have HT := hid hty
  clear hn hx hv hC hks hty h4 h6 h7 h8 hlen
  rcases hk with hk | hk | hk | hk | hk | hk | hk | hk <;> subst hk
  ·obtain rfl : ty = 1 := by have := HT.out; simp only [tyH] at this; simpa using this.symm
   clear HT HN H4 H6 H7 H8 HC HV hC0 IH
   go_enter Tryz.func84, Tryz.ntmps84
   go_wp2_with fail
   go_ret
   exact ⟨rfl, hB.out⟩
  ·obtain rfl : ty = 2 := by have := HT.out; simp only [tyH] at this; simpa using this.symm
   clear HT HN H4 H6 H7 H8 HC HV hC0 IH
   go_enter Tryz.func84, Tryz.ntmps84
   go_wp2_with fail
   go_ret
   exact ⟨rfl, hB.out⟩
  ·have hv : varT cf.vs (tysF fb) a4 = .ok ty := by have := HT.out; simp only [tyH] at this; simpa using this
   obtain ⟨b, -, cx⟩ := hC0.out.spot hv
   have CX := hid cx
   clear cx HT HN H4 H6 H7 H8 HC HV hC0 IH hv
   go_enter Tryz.func84, Tryz.ntmps84
   go_wp2_with fail
   refine CX.out.mono ?_
   rintro e w2 ⟨rfl, hb2⟩
   have hB2 := hid (hB.out.trans (hb2.mono hB.out.size))
   clear hb2 CX
   go_wp2_with fail
   go_ret
   exact ⟨rfl, hB2.out⟩
  ·obtain ⟨ln, hv, -⟩ := tyH_4 HT.out
   clear HT HN H4 H6 H7 H8 HC HV IH
   go_enter Tryz.func84, Tryz.ntmps84
   go_wp2_with fail
   have hC1 := hC0.out.below (Below.refl _ _).drew
   have hX1 := hX0.out
   have hB1 := hB.out
   clear hC0 hX0 hB
   generalize w.alloc (.cells #[.int .i64 t, .int .u8 _, .int .u32 a2, .int .u8 a3, .string a4, .string a5, .slice ka len kc] 134) = w0 at hC1 hX1 hB1 ⊢
   have e4 : w0.drew.cell? ⟨w.heap.size, 4, none⟩ = some (.string a4) := by simpa using hX1.cell 4
   have b0 := hC1.b0
   have x3 := hC1.x3
   have l2 := hC1.var hv
   have hfd : (Instr.field 155 (.agg #[.int .u8 ty, .int .u32 ln]) 0).run Tryz.prog w0.drew = .ok (.int .u8 ty) w0.drew := by kernel_rfl
   clear hv
   have HB := hid hB1
   clear hC1 hX1 hB1
   go_region
   go_wp2_with fail
   go_ret
   exact ⟨rfl, HB.out.drew⟩
  ·obtain ⟨q, hq, hqt⟩ : ∃ q, getM a4 cf.cs = some q ∧ q.type = ty := by
     have := HT.out
     simp only [tyH] at this
     obtain ⟨q, h1, -, h3⟩ := callT_ok (by simpa using this)
     exact ⟨q, h1, h3⟩
   clear HT HN H4 H6 H7 H8 HC HV IH
   go_enter Tryz.func84, Tryz.ntmps84
   go_wp2_with fail
   have hC1 := hC0.out.below (Below.refl _ _).drew
   have hX1 := hX0.out
   have hB1 := hB.out
   clear hC0 hX0 hB
   generalize w.alloc (.cells #[.int .i64 t, .int .u8 _, .int .u32 a2, .int .u8 a3, .string a4, .string a5, .slice ka len kc] 134) = w0 at hC1 hX1 hB1 ⊢
   have e4 : w0.drew.cell? ⟨w.heap.size, 4, none⟩ = some (.string a4) := by simpa using hX1.cell 4
   have b0 := hC1.b0
   have x4 := hC1.x4
   obtain ⟨sa, sc, -, l2⟩ := hC1.sig hq
   rw [hqt] at l2
   have hfd : (Instr.field 114 (.agg #[.slice sa q.params.length sc, .int .u8 ty, .int .i64 q.host, .int .i64 q.fn]) 1).run Tryz.prog w0.drew = .ok (.int .u8 ty) w0.drew := by kernel_rfl
   clear hq hqt
   have HB := hid hB1
   clear hC1 hX1 hB1
   go_region
   go_wp2_with fail
   go_ret
   exact ⟨rfl, HB.out.drew⟩
  ·have hl : len = 1 := H6.out rfl
   have hl0 : 0 < len := by omega
   obtain ⟨b0, o0, t0, xa0, xc0, k0, hk0, hka0, hr0, hs0⟩ := HV.out.kidW (w' := w) 0 (by rw [← hLen.out]; omega)
   obtain ⟨ty0, hx0, hy0⟩ := tyE_xt HN.out.2.1 HN.out.2.2.1 0 k0 hk0
   have hz0 := Exs.sz_at 0 k0 hk0
   obtain rfl : ty0 = ty := by rw [← tyH_6 HT.out, List.getD_eq_getElem?_getD, hy0]; rfl
   obtain ⟨⟨c0, c1, c2, c3, c4, c5⟩, kk⟩ := k0
   subst hka0
   obtain ⟨y0, y1, y2, y3, y4, y5, y6⟩ := hr0.sub (cells_only _ _)
   have x00 := cell_on y0 hB.out
   have x01 := cell_on y1 hB.out
   have x02 := cell_on y2 hB.out
   have x03 := cell_on y3 hB.out
   have x04 := cell_on y4 hB.out
   have x05 := cell_on y5 hB.out
   have x06 := cell_on y6 hB.out
   clear y0 y1 y2 y3 y4 y5 y6
   simp only [Nat.zero_mul, Nat.add_zero] at x00 x01 x02 x03 x04 x05 x06
   have cx := hid (IH.out t0 ⟨c0, c1, c2, c3, c4, c5⟩ kk (.slice xa0 kk.len xc0) ty0 _ (by have := HN.out.1; simp only [] at hz0; omega) hx0 (hs0.sub (cells_old_below hB.out)) hC0.out)
   clear HT HN H4 H6 H7 H8 HC HV IH hC0 hr0 hs0 hx0 hy0 hz0 hk0 hl
   go_enter Tryz.func84, Tryz.ntmps84
   go_wp2_with fail
   refine cx.out.mono ?_
   rintro e w2 ⟨rfl, hb2⟩
   have hB2 := hid (hB.out.trans (hb2.mono hB.out.size))
   clear hb2 cx
   go_wp2_with fail
   go_ret
   exact ⟨rfl, hB2.out⟩
  ·have hl : len = 2 := H7.out rfl
   have hl0 : 0 < len := by omega
   have hl1 : 1 < len := by omega
   have hl2 : (1 : Int) < (len : Int) := by omega
   obtain ⟨b0, o0, t0, xa0, xc0, k0, hk0, hka0, hr0, hs0⟩ := HV.out.kidW (w' := w) 0 (by rw [← hLen.out]; omega)
   obtain ⟨ty0, hx0, hy0⟩ := tyE_xt HN.out.2.1 HN.out.2.2.1 0 k0 hk0
   have hz0 := Exs.sz_at 0 k0 hk0
   obtain ⟨b1, o1, t1, xa1, xc1, k1, hk1, hka1, hr1, hs1⟩ := HV.out.kidW (w' := w) 1 (by rw [← hLen.out]; omega)
   obtain ⟨ty1, hx1, hy1⟩ := tyE_xt HN.out.2.1 HN.out.2.2.1 1 k1 hk1
   have hz1 := Exs.sz_at 1 k1 hk1
   have hbin : binT a5 ty0 ty1 = .ok ty := by rw [← HT.out, tyH_7, List.getD_eq_getElem?_getD, List.getD_eq_getElem?_getD, hy0, hy1]; rfl
   subst hka0
   obtain ⟨rfl, rfl⟩ : b1 = b0 ∧ o1 = o0 := by cases hka1; exact ⟨rfl, rfl⟩
   clear hka1
   obtain ⟨⟨c00, c01, c02, c03, c04, c05⟩, kk0⟩ := k0
   obtain ⟨⟨c10, c11, c12, c13, c14, c15⟩, kk1⟩ := k1
   obtain ⟨y0, y1, y2, y3, y4, y5, y6⟩ := hr0.sub (cells_only _ _)
   have x00 := cell_on y0 hB.out
   have x01 := cell_on y1 hB.out
   have x02 := cell_on y2 hB.out
   have x03 := cell_on y3 hB.out
   have x04 := cell_on y4 hB.out
   have x05 := cell_on y5 hB.out
   have x06 := cell_on y6 hB.out
   clear y0 y1 y2 y3 y4 y5 y6
   obtain ⟨y0, y1, y2, y3, y4, y5, y6⟩ := hr1.sub (cells_only _ _)
   have x10 := cell_on y0 hB.out
   have x11 := cell_on y1 hB.out
   have x12 := cell_on y2 hB.out
   have x13 := cell_on y3 hB.out
   have x14 := cell_on y4 hB.out
   have x15 := cell_on y5 hB.out
   have x16 := cell_on y6 hB.out
   clear y0 y1 y2 y3 y4 y5 y6
   simp only [Nat.zero_mul, Nat.add_zero, Nat.one_mul] at x00 x01 x02 x03 x04 x05 x06 x10 x11 x12 x13 x14 x15 x16
   have hs0 := hs0.sub (cells_old_below hB.out)
   have hs1 := hs1.sub (cells_old_below hB.out)
   clear HT H4 H6 H7 H8 HC HV hr0 hr1 hy0 hy1 hk0 hk1 hl
   go_enter Tryz.func84, Tryz.ntmps84
   go_wp2_with fail
   have hC1 := hC0.out
   have hX1 := hX0.out
   have hB1 := hB.out
   clear hC0 hX0 hB
   generalize w.alloc (.cells #[.int .i64 t, .int .u8 _, .int .u32 a2, .int .u8 a3, .string a4, .string a5, .slice _ len kc] 134) = w0 at hC1 hX1 hB1 x00 x01 x02 x03 x04 x05 x06 x10 x11 x12 x13 x14 x15 x16 hs0 hs1 ⊢
   have e5 : w0.cell? ⟨w.heap.size, 5, none⟩ = some (.string a5) := by simpa using hX1.cell 5
   have e6 : w0.cell? ⟨w.heap.size, 6, none⟩ = some (.slice (some ⟨b1, o1, none⟩) len kc) := by simpa using hX1.cell 6
   have hC1 := hid hC1
   have HB := hid hB1
   clear hX1 hB1
   refine wp_region_held_drew (S := (Below w0.heap.size w0)) (by kernel_rfl) (Below.refl _ _).drew (fun hHeld => ?_)
   refine tk 0 ?_ (hy := ?_) (h := ?_)
   rotate_left
   ·intro w' hSw; go_simp; (try with_reducible rfl)
   try simp only [tpa, tpb, tpc, tpd, tpe]
   refine tk 1 ?_ (hy := ?_) (h := ?_)
   rotate_left
   ·intro w' hSw; have q5 := cell_on e5 hSw; go_simp; (try with_reducible rfl)
   try simp only [tpa, tpb, tpc, tpd, tpe]
   refine tk 2 ?_ (hy := ?_) (h := ?_)
   rotate_left
   ·intro w' hSw; go_simp; (try with_reducible rfl)
   try simp only [tpa, tpb, tpc, tpd, tpe]
   refine tk 3 ?_ (hy := ?_) (h := ?_)
   rotate_left
   ·intro w' hSw; go_simp; (try with_reducible rfl)
   try simp only [tpa, tpb, tpc, tpd, tpe]
   refine tk 4 ?_ (hy := ?_) (h := ?_)
   rotate_left
   ·intro w' hSw; go_simp; (try with_reducible rfl)
   try simp only [tpa, tpb, tpc, tpd, tpe]
   refine tk 5 ?_ (hy := ?_) (h := ?_)
   rotate_left
   ·intro w' hSw; have q6 := cell_on e6 hSw; go_simp; (try with_reducible rfl)
   try simp only [tpa, tpb, tpc, tpd, tpe]
   refine tk 6 ?_ (hy := ?_) (h := ?_)
   rotate_left
   ·intro w' hSw; go_simp; (try with_reducible rfl)
   try simp only [tpa, tpb, tpc, tpd, tpe]
   refine tk 7 ?_ (hy := ?_) (h := ?_)
   rotate_left
   ·intro w' hSw; have q0 := cell_on x00 hSw; have q1 := cell_on x01 hSw; have q2 := cell_on x02 hSw; have q3 := cell_on x03 hSw; have q4 := cell_on x04 hSw; have q5 := cell_on x05 hSw; have q6 := cell_on x06 hSw; go_simp; (try with_reducible rfl)
   try simp only [tpa, tpb, tpc, tpd, tpe]
   refine tk 9 ?_ (hy := ?_) (h := ?_)
   rotate_left
   ·intro w' hSw; go_simp; (try with_reducible rfl)
   try simp only [tpa, tpb, tpc, tpd, tpe]
   refine tk 10 ?_ (hy := ?_) (h := ?_)
   rotate_left
   ·intro w' hSw; go_simp; (try with_reducible rfl)
   try simp only [tpa, tpb, tpc, tpd, tpe]
   refine tk 11 ?_ (hy := ?_) (h := ?_)
   rotate_left
   ·intro w' hSw; go_simp; (try with_reducible rfl)
   try simp only [tpa, tpb, tpc, tpd, tpe]
   refine tk 12 ?_ (hy := ?_) (h := ?_)
   rotate_left
   ·intro w' hSw; have q6 := cell_on e6 hSw; go_simp; (try with_reducible rfl)
   try simp only [tpa, tpb, tpc, tpd, tpe]
   refine tk 13 ?_ (hy := ?_) (h := ?_)
   rotate_left
   ·intro w' hSw; go_simp; (try with_reducible rfl)
   try simp only [tpa, tpb, tpc, tpd, tpe]
   refine tk 14 ?_ (hy := ?_) (h := ?_)
   rotate_left
   ·intro w' hSw; have q0 := cell_on x10 hSw; have q1 := cell_on x11 hSw; have q2 := cell_on x12 hSw; have q3 := cell_on x13 hSw; have q4 := cell_on x14 hSw; have q5 := cell_on x15 hSw; have q6 := cell_on x16 hSw; go_simp; (try with_reducible rfl)
   try simp only [tpa, tpb, tpc, tpd, tpe]
   refine tr 8 (h := fun K hK => ?_)
   go_simp
   go_at_call 84
   refine (IH.out t0 ⟨c00, c01, c02, c03, c04, c05⟩ kk0 (.slice xa0 kk0.len xc0) ty0 _ (by have := HN.out.1; (try simp only [] at hz0); omega) hx0 (hs0.sub (cells_old_below hHeld)) (hC1.out.below hHeld)).mono ?_
   rintro e w2 ⟨rfl, hb2⟩
   have hk := hHeld.trans (hb2.mono hHeld.size)
   clear hHeld
   go_wp2_with fail
   refine hK.out _ _ hk (fun hHeld => ?_)
   clear hK K hk
   try simp only [tpa, tpb, tpc, tpd, tpe]
   refine tr 15 (h := fun K hK => ?_)
   go_simp
   go_at_call 84
   refine (IH.out t1 ⟨c10, c11, c12, c13, c14, c15⟩ kk1 (.slice xa1 kk1.len xc1) ty1 _ (by have := HN.out.1; (try simp only [] at hz1); omega) hx1 (hs1.sub (cells_old_below hHeld)) (hC1.out.below hHeld)).mono ?_
   rintro e w2 ⟨rfl, hb2⟩
   have hk := hHeld.trans (hb2.mono hHeld.size)
   clear hHeld
   go_wp2_with fail
   refine hK.out _ _ hk (fun hHeld => ?_)
   clear hK K hk
   try simp only [tpa, tpb, tpc, tpd, tpe]
   refine tr 16 (h := fun K hK => ?_)
   go_simp
   go_at_call 119
   refine ((by have := binary119 a5 ty0 ty1; rw [hbin] at this; exact this _ : Calls Tryz.prog 119 #[.string a5, .int .u8 ty0, .int .u8 ty1] _ fun e w' => e = .returned (.int .u8 ty) ∧ w' = _)).mono ?_
   rintro e w2 ⟨rfl, hw⟩
   have hk := hHeld
   subst w2
   clear hHeld
   go_wp2_with fail
   refine hK.out _ _ hk (fun hHeld => ?_)
   clear hK K hk
   try simp only [tpa, tpb, tpc, tpd, tpe]
   refine tk 17 ?_ (hy := ?_) (h := ?_)
   rotate_left
   ·intro w' hSw; go_simp; (try with_reducible rfl)
   try simp only [tpa, tpb, tpc, tpd, tpe]
   refine wpAnyH_done (by kernel_rfl) ?_ _
   go_wp2_with fail
   go_ret
   exact ⟨rfl, HB.out.trans (hHeld.mono HB.out.size)⟩
  ·obtain rfl : ty = a3 := by have := HT.out; simp only [tyH] at this; simpa using this.symm
   clear HT HN H4 H6 H7 H8 HC HV hC0 IH
   go_enter Tryz.func84, Tryz.ntmps84
   go_wp2_with fail
   go_ret
   exact ⟨rfl, hB.out⟩
end
section
open Go.Shelf
/-- from one world of a call to another -/
structure KV (p : Pt) (ve ve1 : EvS) (w w1 : World) : Prop where
 k : Kpt (p.TE ve) w.heap.size w w1
 v : Vc ve ve1 w.heap.size
theorem KV.refl (p : Pt) (ve : EvS) (w : World) : KV p ve ve w w := ⟨Kpt.refl _ _ _, Vc.refl _ _⟩
theorem KV.size {p : Pt} {ve ve1 : EvS} {w w1 : World} (h : KV p ve ve1 w w1) : w.heap.size ≤ w1.heap.size := h.k.size
theorem KV.below {p : Pt} {ve ve1 : EvS} {w w1 w2 : World} (h : KV p ve ve1 w w1) (hb : Below w1.heap.size w1 w2) : KV p ve ve1 w w2 := ⟨h.k.trans (Kpt.of (hb.mono h.size)), h.v⟩
theorem KV.trans {p : Pt} {ve ve1 ve2 : EvS} {w w1 w2 : World} (h : KV p ve ve1 w w1) (h2 : KV p ve1 ve2 w1 w2) : KV p ve ve2 w w2 := ⟨h.k.chain h.v h.size h2.k, h.v.trans h2.v h.size⟩
theorem KV.of (p : Pt) (ve : EvS) {w w1 : World} (hb : Below w.heap.size w w1) : KV p ve ve w w1 := (KV.refl p ve w).below hb
/-- a call and a frame, with what holds of its words -/
structure CtX (p : Pt) (cf : Cf) (u : UT) (n : Nat) (shp : List Nat) (d : Nat) (m : MS) (ve : EvS) (F : Nat) (fb : List BSc) (g cap : Nat) (ms : List Nat) (w : World) : Prop where
 c : CtR p cf u n d m ve F fb g cap ms w
 inv : Inv cf shp m
 rg : m.Rg
 frg : Fr.Rg (bareF fb)
theorem CtX.below {p : Pt} {cf : Cf} {u : UT} {n : Nat} {shp : List Nat} {d : Nat} {m : MS} {ve : EvS} {F : Nat} {fb : List BSc} {g cap : Nat} {ms : List Nat} {w w' : World} (h : CtX p cf u n shp d m ve F fb g cap ms w) (hb : Below w.heap.size w w') : CtX p cf u n shp d m ve F fb g cap ms w' := ⟨h.c.below hb, h.inv, h.rg, h.frg⟩
/-- what comes of a walk that does not alter the frame -/
def PostX (p : Pt) (cf : Cf) (u : UT) (n : Nat) (shp : List Nat) (d F : Nat) (fb : List BSc) (g cap : Nat) (ms : List Nat) (ve : EvS) {α : Type} (P : α → Prop) (f : α → Ending) (o : Out α) (w : World) (e : Ending) (w' : World) : Prop := match o with
 | .ok x m => e = f x ∧ P x ∧ ∃ ve', CtX p cf u n shp d m ve' F fb g cap ms w' ∧ KV p ve ve' w w'
 | .stop x y m => e = endE x y ∧ ∃ ve' d', MeR p cf.allowed n d' m ve' w' ∧ KV p ve ve' w w'
 | .lost => True
section
variable {p : Pt} {cf : Cf} {u : UT} {n : Nat} {shp : List Nat} {d : Nat} {m : MS} {ve : EvS} {F : Nat} {fb : List BSc} {g cap : Nat} {ms : List Nat} {w w' : World}
theorem PostM.lift {α : Type} {P : α → Prop} {f : α → Ending} {o : Out α} {e : Ending} (hX : CtX p cf u n shp d m ve F fb g cap ms w) (hi : o.Ok cf shp) (hr : o.Rg P) (h : PostM p cf.allowed n d w.heap.size ve f o w e w') : PostX p cf u n shp d F fb g cap ms ve P f o w e w' := by
 cases o with
 | ok x m1 =>
  obtain ⟨h1, ve', h2, h3, h4⟩ := h
  have hi1 : Inv cf shp m1 := hi
  exact ⟨h1, hr.1, ve', ⟨hX.c.move h2 h3 (by rw [hi1.shape, hX.inv.shape]), hi1, hr.2, hX.frg⟩, ⟨h3, h4⟩⟩
 | stop x y m1 =>
  obtain ⟨h1, ve', d', h2, h3, h4⟩ := h
  exact ⟨h1, ve', d', h2, ⟨h3, h4⟩⟩
 | lost => trivial
theorem fin_ok {α : Type} {f : α → Ending} {x : α} {m1 : MS} {ve1 : EvS} {w1 : World} {e : Ending} (hX : CtX p cf u n shp d m1 ve1 F fb g cap ms w1) (hK : KV p ve ve1 w w1) (he : e = f x) : PostM p cf.allowed n d w.heap.size ve f (.ok x m1) w e w1 := ⟨he, ve1, hX.c.me, hK.k, hK.v⟩
theorem fin_stop {α : Type} {f : α → Ending} {x y : Int} {m1 : MS} {d1 : Nat} {ve1 : EvS} {w1 : World} {e : Ending} (hM : MeR p cf.allowed n d1 m1 ve1 w1) (hK : KV p ve ve1 w w1) (he : e = endE x y) : PostM p cf.allowed n d w.heap.size ve f (.stop x y m1) w e w1 := ⟨he, ve1, d1, hM, hK.k, hK.v⟩
/-- a cell that a walk keeps -/
theorem Kpt.at {T : Nat → Prop} {w w' : World} (h : Kpt T w.heap.size w w') {a : Addr} {v : Value} (hc : w.cell? a = some v) (ht : ¬ T a.block) : w'.cell? a = some v := by
 have hb := h.block a.block (World.block_lt_of_cell? _ _ hc) ht
 unfold World.cell? at hc ⊢
 rw [hb]
 exact hc
theorem CtR.boxcell (h : CtR p cf u n d m ve F fb g cap ms w) (hk : Kpt (p.TE ve) w.heap.size w w') {q i : Nat} {cs : Array Value} {t : TypeId} (hb : Bx w q cs t) (h1 : t ≠ 119) (h2 : t ≠ 52) (h3 : t ≠ 127) : w'.cell? ⟨q, i, none⟩ = cs[i]? :=
 (hk.box hb hb.lt (h.me.notBox hb h1 h2 h3)).cell i
/-- the word of a name that has a type, and its place -/
theorem CtX.word (h : CtX p cf u n shp d m ve F fb g cap ms w) {s : ByteArray} {ty : Int} (ht : varT cf.vs (tysF fb) s = .ok ty) :
  ∃ b, ((readV cf (bareF fb) m s).1 = ty ∧ w.cell? ⟨b, 0, none⟩ = some (.int .u32 (readV cf (bareF fb) m s).2) ∧ w.frozen? ⟨b, 0, none⟩ = false ∧
    ((∃ x, seesB s fb = some x ∧ b = x.2) ∨ (seesB s fb = none ∧ ∃ (i : Nat) (hi : i < p.xs.length), placeOf cf s = i ∧ b = rowB p.xs[i] ∧ p.xs[i].ownBlock = some b))) ∧
   Calls Tryz.prog 76 #[.pointer (some ⟨p.M, 0, none⟩), .pointer (some ⟨F, 0, none⟩), .string s] w fun e w' => e = .returned (.tuple #[.pointer (some ⟨b, 0, none⟩), .int .u8 ty]) ∧ Below w.heap.size w w' := by
 obtain ⟨b, h1, h2⟩ := h.c.spot ht
 refine ⟨b, ?_, h2⟩
 unfold readV
 rw [seesB_bare]
 rcases h1 with ⟨x, q1, rfl, rfl⟩ | ⟨q1, i, hi, q2, rfl, rfl⟩
 ·rw [q1]
  obtain ⟨sc, r1, r2⟩ := seesB_mem q1
  have hb := h.c.fr.boxes sc r1 _ r2
  exact ⟨rfl, by simpa using hb.cell 0, hb.free 0, .inl ⟨x, rfl, rfl⟩⟩
 ·rw [q1]
  have hp : placeOf cf s = i := by unfold placeOf; rw [q2]; rfl
  have hi2 : i < m.held.length := by have := h.c.me.len; omega
  have hw := h.c.me.words i hi hi2
  have hl0 := (h.c.pos _ (List.getElem_mem hi2)).1
  obtain ⟨gx, cx, e1, k1, k2⟩ := row_shape hw hl0
  have hr : rowB p.xs[i] = gx := by rw [e1]; rfl
  have hob : p.xs[i].ownBlock = some gx := by rw [e1]; rfl
  obtain ⟨cs, hbx⟩ := row_block hw hob
  refine ⟨rfl, ?_, ?_, .inr ⟨rfl, i, hi, hp, rfl, by rw [hr]; exact hob⟩⟩
  ·rw [hr]
   have hw2 := hw
   rw [e1] at hw2
   have := hw2.cellAt 0 (by omega)
   rw [this]
   simp only [Option.map_none, wordsAt, hp, List.getD_eq_getElem?_getD, List.getElem?_eq_getElem hi2, Option.getD_some]
   simp [hl0]
  ·rw [hr]; exact hbx.free 0
end
/-! ### the evaluator at known kids -/
theorem tyFr_bare (fb : List BSc) : tyFr (bareF fb) = tysF fb := by
 simp only [tyFr, bareF, tysF, bareSc, tySc, List.map_map]
 apply List.map_congr_left
 intro a _
 simp [List.map_map]
theorem evK_at {ev : Evl} {d : Nat} {fr : Fr} {l : Exs} {i : Nat} {m : MS} {a : EH × Exs} (h : l.toL[i]? = some a) : evK ev d fr l i m = ev.E d fr a.1 a.2 m := by unfold evK; rw [h]
theorem typK_at {cf : Cf} {fb : List BSc} {l : Exs} {i : Nat} {a : EH × Exs} {t : Int} (h : l.toL[i]? = some a) (hx : XT cf (tysF fb) a.1 a.2 t) : typK cf (bareF fb) l i = t := by
 unfold typK
 rw [h]
 exact typF_ty cf _ _ _ (by rw [tyFr_bare]; exact hx.ty)
/-- what is shown of expressions with fuel k -/
def WEx (p : Pt) (cf : Cf) (u : UT) (n : Nat) (shp : List Nat) (k : Nat) : Prop :=
 ∀ (d : Nat) (m : MS) (ve : EvS) (F : Nat) (fb : List BSc) (g cap : Nat) (ms : List Nat) (t : Int) (h : EH) (kids : Exs) (v : Value) (ty : Int) (w : World), XT cf (tysF fb) h kids ty → h.Wf → kids.Wf → SlE (onlyW w (oldB p.B)) false none kids v → CtX p cf u n shp d m ve F fb g cap ms w →
  (evl cf k).E d (bareF fb) h kids m ≠ .lost →
  Calls Tryz.prog 79 #[.pointer (some ⟨p.M, 0, none⟩), .pointer (some ⟨F, 0, none⟩), aggE t h v] w (PostX p cf u n shp d F fb g cap ms ve U (fun x => .returned (.int .u32 x)) ((evl cf k).E d (bareF fb) h kids m) w)
end
end Go.Proofs.YtlabadkfkbenoaaGreatDoor
