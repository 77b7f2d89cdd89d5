/- Walks and plain laws, merged: IntI IntJ IntK IntL. No condition. -/
import Derived.Test.YtlabadkfkbenoaaGreatDoorKm17
import Derived.Test.YtlabadkfkbenoaaGreatDoorKm16
import Derived.Outline
import Derived.Deep.RegionHeld3
import Derived.Test.YtlabadkfkbenoaaGreatDoorKm01
namespace Go.Proofs.YtlabadkfkbenoaaGreatDoor
open Go.RowKit
set_option linter.unusedVariables false
set_option linter.unusedSimpArgs false
set_option maxRecDepth 100000
set_option maxHeartbeats 64000000
section
open Go.Shelf
structure KidR (w : World) (b q : Nat) (t : Int) (a : EH × Exs) (v : Value) : Prop where
 c0 : w.cell? ⟨b, q, none⟩ = some (.int .i64 t)
 c1 : w.cell? ⟨b, q + 1, none⟩ = some (.int .u8 a.1.kind)
 c2 : w.cell? ⟨b, q + 2, none⟩ = some (.int .u32 a.1.word)
 c3 : w.cell? ⟨b, q + 3, none⟩ = some (.int .u8 a.1.type)
 c4 : w.cell? ⟨b, q + 4, none⟩ = some (.string a.1.name)
 c5 : w.cell? ⟨b, q + 5, none⟩ = some (.string a.1.sign)
 c6 : w.cell? ⟨b, q + 6, none⟩ = some v
theorem KidR.sub {w w' : World} {b q : Nat} {t : Int} {a : EH × Exs} {v : Value} (h : KidR w b q t a v) (hc : Cells w w') : KidR w' b q t a v := ⟨hc _ _ h.c0, hc _ _ h.c1, hc _ _ h.c2, hc _ _ h.c3, hc _ _ h.c4, hc _ _ h.c5, hc _ _ h.c6⟩
theorem SlE.kid {w : World} {l : Exs} {v : Value} (h : SlE w false none l v) (i : Nat) (a : EH × Exs) (ha : l.toL[i]? = some a) :
  ∃ b off cap t ka kc, v = .slice (some ⟨b, off, none⟩) l.len cap ∧ KidR w b (off + i * 7) t a (.slice ka a.2.len kc) ∧ SlE w false none a.2 (.slice ka a.2.len kc) := by
 obtain ⟨ka, kb, koff, kcap, rfl, y2, y3⟩ := SlE_iff.1 h
 obtain ⟨hi, rfl⟩ := List.getElem?_eq_some_iff.1 ha
 obtain ⟨⟨⟨t, z0, _⟩, z1, z2, z3, z4, z5⟩, v, z6, hv⟩ := y3 i hi
 have hk : ka = some ⟨kb, koff, none⟩ := by
  rcases y2 with ⟨q, _⟩ | ⟨q, _⟩
  ·omega
  ·exact q
 subst hk
 obtain ⟨xa, xc, rfl⟩ := hv.shape'
 exact ⟨kb, koff, kcap, t, xa, xc, by rw [Exs.toL_len], ⟨z0, z1, z2, z3, z4, z5, z6⟩, hv⟩
section
variable {p : Pt} {cf : Cf} {u : UT} {n d : Nat} {m : MS} {ve : EvS} {F : Nat} {fb : List BSc} {g cap : Nat} {ms : List Nat} {w w' : World}
theorem FrR.move (h : FrR w n F fb g cap ms) {a : Nat} (hm : MeR p a n d m ve w) (hk : Kpt (p.TE ve) w.heap.size w w') : FrR w' n F fb g cap ms where
 box := hk.box h.box h.box.lt (hm.notBox h.box (by decide) (by decide) (by decide))
 row := hk.own h.row fun b hb => ⟨(h.row.lt b hb).2, hm.other h.row (by decide) (by decide) (by decide) hb⟩
 len := h.len
 maps := fun i h1 h2 => hk.map (h.maps i h1 h2) (h.maps i h1 h2).lt (by obtain ⟨es, c, q, _⟩ := h.maps i h1 h2; exact hm.notMap q)
 boxes := fun sc h1 x h2 => hk.box (h.boxes sc h1 x h2) (h.boxes sc h1 x h2).lt (hm.notBox (h.boxes sc h1 x h2) (by decide) (by decide) (by decide))
 nd := h.nd
 apart := h.apart
 far := h.far
 le := h.le
theorem pos_of {m m1 : MS} (hs : m1.held.map List.length = m.held.map List.length) (h : ∀ q ∈ m.held, 0 < q.length ∧ q.length ≤ 4096) : ∀ q ∈ m1.held, 0 < q.length ∧ q.length ≤ 4096 := by
 intro q hq
 have h1 : q.length ∈ m1.held.map List.length := List.mem_map.2 ⟨q, hq, rfl⟩
 rw [hs] at h1
 obtain ⟨r, h2, h3⟩ := List.mem_map.1 h1
 rw [← h3]
 exact h r h2
theorem CtR.move (h : CtR p cf u n d m ve F fb g cap ms w) {d1 : Nat} {m1 : MS} {ve1 : EvS} (hm : MeR p cf.allowed n d1 m1 ve1 w') (hk : Kpt (p.TE ve) w.heap.size w w') (hs : m1.held.map List.length = m.held.map List.length) : CtR p cf u n d1 m1 ve1 F fb g cap ms w' :=
 ⟨h.st.move h.me hk h.me.size, hm, h.fr.move h.me hk, pos_of hs h.pos⟩
theorem CtR.cells (h : CtR p cf u n d m ve F fb g cap ms w) (hk : Kpt (p.TE ve) w.heap.size w w') : Cells (onlyW w (oldB p.B)) (onlyW w' (oldB p.B)) :=
 hk.cells fun b hb => ⟨by have := h.me.size; have := h.st.Bn; simp at hb; omega, h.me.old h.st.M h.st.Bn (by simpa using hb)⟩
end
theorem cells_old_below {w w' : World} {B : Nat} (hb : Below w.heap.size w w') : Cells (onlyW w (oldB B)) (onlyW w' (oldB B)) := cells_move fun a u h1 h2 => ⟨h1, cell_on h2 hb⟩
/-! ### walks one behind another -/
theorem TE_back {p : Pt} {ve ve1 : EvS} {k b : Nat} (hv : Vc ve ve1 k) (hb : b < k) (h : p.TE ve1 b) : p.TE ve b := by
 rcases h with h | h
 ·exact .inl h
 ·rcases hv.1 with q | ⟨c, q, q2⟩
  ·exact .inr (q ▸ h)
  ·rw [q] at h; cases h; omega
theorem Vc.trans {ve ve1 ve2 : EvS} {k k1 : Nat} (h : Vc ve ve1 k) (h2 : Vc ve1 ve2 k1) (hk : k ≤ k1) : Vc ve ve2 k := by
 refine ⟨?_, fun x hx => ?_⟩
 ·rcases h2.1 with q | ⟨c, q, q2⟩
  ·rcases h.1 with r | ⟨c, r, r2⟩
   ·exact .inl (q.trans r)
   ·exact .inr ⟨c, q.trans r, r2⟩
  ·exact .inr ⟨c, q, by omega⟩
 ·rcases h2.2 x hx with q | q
  ·exact h.2 x q
  ·exact .inr fun b hb => Nat.le_trans hk (q b hb)
theorem Kpt.chain {p : Pt} {ve ve1 : EvS} {k k1 : Nat} {w w1 w2 : World} (hK : Kpt (p.TE ve) k w w1) (hv : Vc ve ve1 k) (hk : k ≤ k1) (h : Kpt (p.TE ve1) k1 w1 w2) : Kpt (p.TE ve) k w w2 :=
 hK.trans (h.mono hk fun b hb ht => TE_back hv hb ht)
theorem PostM.chain {p : Pt} {a n d k k1 : Nat} {ve ve1 : EvS} {α : Type} {f : α → Ending} {o : Out α} {w w1 w2 : World} {e : Ending} (hK : Kpt (p.TE ve) k w w1) (hv : Vc ve ve1 k) (hk : k ≤ k1) (h : PostM p a n d k1 ve1 f o w1 e w2) : PostM p a n d k ve f o w e w2 := by
 cases o with
 | ok x m =>
  obtain ⟨h1, ve', h2, h3, h4⟩ := h
  exact ⟨h1, ve', h2, hK.chain hv hk h3, Vc.trans hv h4 hk⟩
 | stop x y m =>
  obtain ⟨h1, ve', d', h2, h3, h4⟩ := h
  exact ⟨h1, ve', d', h2, hK.chain hv hk h3, Vc.trans hv h4 hk⟩
 | lost => trivial
end
section
open Go.Shelf
theorem arrT_ok {vs : VS} {ss : List Scope} {s : ByteArray} {t : Int} (h : arrT vs ss s = .ok t) : ∃ n, getM s vs = some (t, n) ∧ 0 < n ∧ seesS s ss = none := by
 unfold arrT at h
 split at h
 ·split at h
  ·rename_i hq h2
   cases h
   exact ⟨_, hq, h2.2, h2.1⟩
  ·cases h
 ·cases h
theorem tyH_4 {vs : VS} {cs : CSg} {ss : List Scope} {a0 a2 a3 : Int} {a4 a5 : ByteArray} {ks : List Int} {ty : Int} (h : tyH vs cs ss ⟨a0, 4, a2, a3, a4, a5⟩ ks = .ok ty) : ∃ ln, getM a4 vs = some (ty, ln) ∧ ks.getD 0 0 = 1 := by
 have e : tyH vs cs ss ⟨a0, 4, a2, a3, a4, a5⟩ ks = (match arrT vs ss a4 with | .error e => .error e | .ok t => if ks.getD 0 0 = 1 then .ok t else .error 292) := rfl
 rw [e] at h
 cases hq : arrT vs ss a4 with
 | error e => rw [hq] at h; cases h
 | ok t =>
  rw [hq] at h
  simp only [] at h
  obtain ⟨ln, q, -⟩ := arrT_ok hq
  by_cases h1 : ks.getD 0 0 = 1
  ·rw [if_pos h1] at h; cases h; exact ⟨ln, q, h1⟩
  ·rw [if_neg h1] at h; cases h
theorem tyH_6 {vs : VS} {cs : CSg} {ss : List Scope} {a0 a2 a3 : Int} {a4 a5 : ByteArray} {ks : List Int} {ty : Int} (h : tyH vs cs ss ⟨a0, 6, a2, a3, a4, a5⟩ ks = .ok ty) : ks.getD 0 0 = ty := by
 have e : tyH vs cs ss ⟨a0, 6, a2, a3, a4, a5⟩ ks = if (a5.toList == [45] || ks.getD 0 0 == 1) = true then .ok (ks.getD 0 0) else .error 292 := rfl
 rw [e] at h
 by_cases h1 : (a5.toList == [45] || ks.getD 0 0 == 1) = true
 ·rw [if_pos h1] at h; cases h; rfl
 ·rw [if_neg h1] at h; cases h
theorem tyH_7 {vs : VS} {cs : CSg} {ss : List Scope} {a0 a2 a3 : Int} {a4 a5 : ByteArray} {ks : List Int} : tyH vs cs ss ⟨a0, 7, a2, a3, a4, a5⟩ ks = binT a5 (ks.getD 0 0) (ks.getD 1 0) := rfl
section
variable {p : Pt} {cf : Cf} {u : UT} {n d : Nat} {m : MS} {ve : EvS} {F : Nat} {fb : List BSc} {g cap : Nat} {ms : List Nat} {w w' : World}
theorem CtR.b0 (h : CtR p cf u n d m ve F fb g cap ms w) : w.cell? ⟨p.M, 0, none⟩ = some (.pointer (some ⟨p.X, 0, none⟩)) := by
 obtain ⟨en, va, fa, hb⟩ := h.me.box
 simpa using hb.cell 0
theorem CtR.b10 (h : CtR p cf u n d m ve F fb g cap ms w) : w.cell? ⟨p.M, 10, none⟩ = some (.map (some p.kb)) := by
 obtain ⟨en, va, fa, hb⟩ := h.me.box
 simpa using hb.cell 10
theorem CtR.x0 (h : CtR p cf u n d m ve F fb g cap ms w) : w.cell? ⟨p.X, 0, none⟩ = some p.vg := by simpa using h.st.X.cell 0
theorem CtR.x1 (h : CtR p cf u n d m ve F fb g cap ms w) : w.cell? ⟨p.X, 1, none⟩ = some p.vh := by simpa using h.st.X.cell 1
theorem CtR.x2 (h : CtR p cf u n d m ve F fb g cap ms w) : w.cell? ⟨p.X, 2, none⟩ = some p.vf := by simpa using h.st.X.cell 2
theorem CtR.x3 (h : CtR p cf u n d m ve F fb g cap ms w) : w.cell? ⟨p.X, 3, none⟩ = some (.map (some p.vb)) := by simpa using h.st.X.cell 3
theorem CtR.x4 (h : CtR p cf u n d m ve F fb g cap ms w) : w.cell? ⟨p.X, 4, none⟩ = some (.map (some p.cb)) := by simpa using h.st.X.cell 4
theorem CtR.var (h : CtR p cf u n d m ve F fb g cap ms w) {s : ByteArray} {t ln : Int} (hv : getM s cf.vs = some (t, ln)) : (Instr.lookup 88 (.map (some p.vb)) (.string s) false).run Tryz.prog w = .ok (.agg #[.int .u8 t, .int .u32 ln]) w := by
 have l2 := (map_whole h.st.nm.vars (by simpa using h.st.lv)).lookup under88 under9 s _ (zero155 w) false
 rw [getM_map varv, hv] at l2
 simpa using l2
theorem CtR.sig (h : CtR p cf u n d m ve F fb g cap ms w) {s : ByteArray} {q : Sig} (hv : getM s cf.cs = some q) : ∃ ka kc, SlP (onlyW w (oldB p.B)) q.params (.slice ka q.params.length kc) ∧ (Instr.lookup 89 (.map (some p.cb)) (.string s) false).run Tryz.prog w = .ok (.agg #[.slice ka q.params.length kc, .int .u8 q.type, .int .i64 q.host, .int .i64 q.fn]) w := by
 obtain ⟨l, h2, h3⟩ := h.st.nm.calls
 have hl := (map_whole h2 (by simpa using h.st.lc)).lookup under89 under9 s _ (zero114 w) false
 rcases h3.get s with ⟨e1, e2⟩ | ⟨g', v, e1, e2, pv, rfl, h5⟩
 ·rw [hv] at e1; cases e1
 ·rw [hv] at e1
  cases e1
  rw [e2] at hl
  have h6 := h5
  obtain ⟨ka, kb, koff, kc, rfl, -⟩ := h6
  exact ⟨ka, kc, h5, by simpa using hl⟩
end
theorem SlE.kidW {w w' : World} {B : Nat} {l : Exs} {ka : Option Addr} {len c : Nat} (h : SlE (onlyW w (oldB B)) false none l (.slice ka len c)) (i : Nat) (hi : i < l.len) :
  ∃ b off t xa xc a, l.toL[i]? = some a ∧ ka = some ⟨b, off, none⟩ ∧ KidR (onlyW w (oldB B)) b (off + i * 7) t a (.slice xa a.2.len xc) ∧ SlE (onlyW w (oldB B)) false none a.2 (.slice xa a.2.len xc) := by
 obtain ⟨a, ha⟩ := Exs.toL_get hi
 obtain ⟨b, off, cap, t, xa, xc, h1, h2, h3⟩ := h.kid i a ha
 cases h1
 exact ⟨b, off, t, xa, xc, a, ha, rfl, h2, h3⟩
theorem typ84 (p : Pt) (cf : Cf) (u : UT) (n d : Nat) (m : MS) (ve : EvS) (F : Nat) (fb : List BSc) (g cap : Nat) (ms : List Nat) : ∀ (N : Nat) (t : Int) (h : EH) (kids : Exs) (v : Value) (ty : Int) (w : World), kids.sz < N → XT cf (tysF fb) h kids ty →
  SlE (onlyW w (oldB p.B)) false none kids v → CtR p cf u n d m ve F fb g cap ms w →
  Calls Tryz.prog 84 #[.pointer (some ⟨p.M, 0, none⟩), .pointer (some ⟨F, 0, none⟩), aggE t h v] w fun e w' => e = .returned (.int .u8 ty) ∧ Below w.heap.size w w' := by
 intro N
 induction N with
 | zero => intro t h kids v ty w hn; omega
 | succ N ih =>
  have IH := hid ih
  clear ih
  intro t h kids v ty w hn hx hv hC
  obtain ⟨ka, kc, rfl⟩ := hv.shape'
  obtain ⟨ks, hks, hty⟩ := hx.kinds
  obtain ⟨hk, h4, h6, h7, h8, -⟩ := okH_n hx.ok
  have HN := hid (And.intro hn (And.intro hx.kids (And.intro hks hv)))
  have hB := hid ((Below.refl w.heap.size w).alloc (Nat.le_refl _) (.cells #[.int .i64 t, .int .u8 h.kind, .int .u32 h.word, .int .u8 h.type, .string h.name, .string h.sign, .slice ka kids.len kc] 134))
  have hC0 := hid (hC.below hB.out)
  obtain ⟨a0, a1, a2, a3, a4, a5⟩ := h
  simp only [] at hk h4 h6 h7 h8 hB hC0 ⊢
  have hX0 := hid (Bx.new w #[.int .i64 t, .int .u8 a1, .int .u32 a2, .int .u8 a3, .string a4, .string a5, .slice ka kids.len kc] 134)
  obtain ⟨len, hlen⟩ : ∃ q, q = kids.len := ⟨_, rfl⟩
  rw [← hlen] at h4 h6 h7 h8 hB hC0 hX0 ⊢
  have hLen := hid hlen
  have H4 := hid h4
  have H6 := hid h6
  have H7 := hid h7
  have H8 := hid h8
  have HC := hid hC
  have HV := hid hv
  have HT := hid hty
  clear hn hx hv hC hks hty h4 h6 h7 h8 hlen
  rcases hk with hk | hk | hk | hk | hk | hk | hk | hk <;> subst hk
  ·obtain rfl : ty = 1 := by have := HT.out; simp only [tyH] at this; simpa using this.symm
   clear HT HN H4 H6 H7 H8 HC HV hC0 IH
   go_enter Tryz.func84, Tryz.ntmps84
   go_wp2_with fail
   go_ret
   exact ⟨rfl, hB.out⟩
  ·obtain rfl : ty = 2 := by have := HT.out; simp only [tyH] at this; simpa using this.symm
   clear HT HN H4 H6 H7 H8 HC HV hC0 IH
   go_enter Tryz.func84, Tryz.ntmps84
   go_wp2_with fail
   go_ret
   exact ⟨rfl, hB.out⟩
  ·have hv : varT cf.vs (tysF fb) a4 = .ok ty := by have := HT.out; simp only [tyH] at this; simpa using this
   obtain ⟨b, -, cx⟩ := hC0.out.spot hv
   have CX := hid cx
   clear cx HT HN H4 H6 H7 H8 HC HV hC0 IH hv
   go_enter Tryz.func84, Tryz.ntmps84
   go_wp2_with fail
   refine CX.out.mono ?_
   rintro e w2 ⟨rfl, hb2⟩
   have hB2 := hid (hB.out.trans (hb2.mono hB.out.size))
   clear hb2 CX
   go_wp2_with fail
   go_ret
   exact ⟨rfl, hB2.out⟩
  ·obtain ⟨ln, hv, -⟩ := tyH_4 HT.out
   clear HT HN H4 H6 H7 H8 HC HV IH
   go_enter Tryz.func84, Tryz.ntmps84
   go_wp2_with fail
   have hC1 := hC0.out.below (Below.refl _ _).drew
   have hX1 := hX0.out
   have hB1 := hB.out
   clear hC0 hX0 hB
   generalize w.alloc (.cells #[.int .i64 t, .int .u8 _, .int .u32 a2, .int .u8 a3, .string a4, .string a5, .slice ka len kc] 134) = w0 at hC1 hX1 hB1 ⊢
   have e4 : w0.drew.cell? ⟨w.heap.size, 4, none⟩ = some (.string a4) := by simpa using hX1.cell 4
   have b0 := hC1.b0
   have x3 := hC1.x3
   have l2 := hC1.var hv
   have hfd : (Instr.field 155 (.agg #[.int .u8 ty, .int .u32 ln]) 0).run Tryz.prog w0.drew = .ok (.int .u8 ty) w0.drew := by kernel_rfl
   clear hv
   have HB := hid hB1
   clear hC1 hX1 hB1
   go_region
   go_wp2_with fail
   go_ret
   exact ⟨rfl, HB.out.drew⟩
  ·obtain ⟨q, hq, hqt⟩ : ∃ q, getM a4 cf.cs = some q ∧ q.type = ty := by
     have := HT.out
     simp only [tyH] at this
     obtain ⟨q, h1, -, h3⟩ := callT_ok (by simpa using this)
     exact ⟨q, h1, h3⟩
   clear HT HN H4 H6 H7 H8 HC HV IH
   go_enter Tryz.func84, Tryz.ntmps84
   go_wp2_with fail
   have hC1 := hC0.out.below (Below.refl _ _).drew
   have hX1 := hX0.out
   have hB1 := hB.out
   clear hC0 hX0 hB
   generalize w.alloc (.cells #[.int .i64 t, .int .u8 _, .int .u32 a2, .int .u8 a3, .string a4, .string a5, .slice ka len kc] 134) = w0 at hC1 hX1 hB1 ⊢
   have e4 : w0.drew.cell? ⟨w.heap.size, 4, none⟩ = some (.string a4) := by simpa using hX1.cell 4
   have b0 := hC1.b0
   have x4 := hC1.x4
   obtain ⟨sa, sc, -, l2⟩ := hC1.sig hq
   rw [hqt] at l2
   have hfd : (Instr.field 114 (.agg #[.slice sa q.params.length sc, .int .u8 ty, .int .i64 q.host, .int .i64 q.fn]) 1).run Tryz.prog w0.drew = .ok (.int .u8 ty) w0.drew := by kernel_rfl
   clear hq hqt
   have HB := hid hB1
   clear hC1 hX1 hB1
   go_region
   go_wp2_with fail
   go_ret
   exact ⟨rfl, HB.out.drew⟩
  ·have hl : len = 1 := H6.out rfl
   have hl0 : 0 < len := by omega
   obtain ⟨b0, o0, t0, xa0, xc0, k0, hk0, hka0, hr0, hs0⟩ := HV.out.kidW (w' := w) 0 (by rw [← hLen.out]; omega)
   obtain ⟨ty0, hx0, hy0⟩ := tyE_xt HN.out.2.1 HN.out.2.2.1 0 k0 hk0
   have hz0 := Exs.sz_at 0 k0 hk0
   obtain rfl : ty0 = ty := by rw [← tyH_6 HT.out, List.getD_eq_getElem?_getD, hy0]; rfl
   obtain ⟨⟨c0, c1, c2, c3, c4, c5⟩, kk⟩ := k0
   subst hka0
   obtain ⟨y0, y1, y2, y3, y4, y5, y6⟩ := hr0.sub (cells_only _ _)
   have x00 := cell_on y0 hB.out
   have x01 := cell_on y1 hB.out
   have x02 := cell_on y2 hB.out
   have x03 := cell_on y3 hB.out
   have x04 := cell_on y4 hB.out
   have x05 := cell_on y5 hB.out
   have x06 := cell_on y6 hB.out
   clear y0 y1 y2 y3 y4 y5 y6
   simp only [Nat.zero_mul, Nat.add_zero] at x00 x01 x02 x03 x04 x05 x06
   have cx := hid (IH.out t0 ⟨c0, c1, c2, c3, c4, c5⟩ kk (.slice xa0 kk.len xc0) ty0 _ (by have := HN.out.1; simp only [] at hz0; omega) hx0 (hs0.sub (cells_old_below hB.out)) hC0.out)
   clear HT HN H4 H6 H7 H8 HC HV IH hC0 hr0 hs0 hx0 hy0 hz0 hk0 hl
   go_enter Tryz.func84, Tryz.ntmps84
   go_wp2_with fail
   refine cx.out.mono ?_
   rintro e w2 ⟨rfl, hb2⟩
   have hB2 := hid (hB.out.trans (hb2.mono hB.out.size))
   clear hb2 cx
   go_wp2_with fail
   go_ret
   exact ⟨rfl, hB2.out⟩
  ·have hl : len = 2 := H7.out rfl
   have hl0 : 0 < len := by omega
   have hl1 : 1 < len := by omega
   have hl2 : (1 : Int) < (len : Int) := by omega
   obtain ⟨b0, o0, t0, xa0, xc0, k0, hk0, hka0, hr0, hs0⟩ := HV.out.kidW (w' := w) 0 (by rw [← hLen.out]; omega)
   obtain ⟨ty0, hx0, hy0⟩ := tyE_xt HN.out.2.1 HN.out.2.2.1 0 k0 hk0
   have hz0 := Exs.sz_at 0 k0 hk0
   obtain ⟨b1, o1, t1, xa1, xc1, k1, hk1, hka1, hr1, hs1⟩ := HV.out.kidW (w' := w) 1 (by rw [← hLen.out]; omega)
   obtain ⟨ty1, hx1, hy1⟩ := tyE_xt HN.out.2.1 HN.out.2.2.1 1 k1 hk1
   have hz1 := Exs.sz_at 1 k1 hk1
   have hbin : binT a5 ty0 ty1 = .ok ty := by rw [← HT.out, tyH_7, List.getD_eq_getElem?_getD, List.getD_eq_getElem?_getD, hy0, hy1]; rfl
   subst hka0
   obtain ⟨rfl, rfl⟩ : b1 = b0 ∧ o1 = o0 := by cases hka1; exact ⟨rfl, rfl⟩
   clear hka1
   obtain ⟨⟨c00, c01, c02, c03, c04, c05⟩, kk0⟩ := k0
   obtain ⟨⟨c10, c11, c12, c13, c14, c15⟩, kk1⟩ := k1
   obtain ⟨y0, y1, y2, y3, y4, y5, y6⟩ := hr0.sub (cells_only _ _)
   have x00 := cell_on y0 hB.out
   have x01 := cell_on y1 hB.out
   have x02 := cell_on y2 hB.out
   have x03 := cell_on y3 hB.out
   have x04 := cell_on y4 hB.out
   have x05 := cell_on y5 hB.out
   have x06 := cell_on y6 hB.out
   clear y0 y1 y2 y3 y4 y5 y6
   obtain ⟨y0, y1, y2, y3, y4, y5, y6⟩ := hr1.sub (cells_only _ _)
   have x10 := cell_on y0 hB.out
   have x11 := cell_on y1 hB.out
   have x12 := cell_on y2 hB.out
   have x13 := cell_on y3 hB.out
   have x14 := cell_on y4 hB.out
   have x15 := cell_on y5 hB.out
   have x16 := cell_on y6 hB.out
   clear y0 y1 y2 y3 y4 y5 y6
   simp only [Nat.zero_mul, Nat.add_zero, Nat.one_mul] at x00 x01 x02 x03 x04 x05 x06 x10 x11 x12 x13 x14 x15 x16
   have hs0 := hs0.sub (cells_old_below hB.out)
   have hs1 := hs1.sub (cells_old_below hB.out)
   clear HT H4 H6 H7 H8 HC HV hr0 hr1 hy0 hy1 hk0 hk1 hl
   go_enter Tryz.func84, Tryz.ntmps84
   go_wp2_with fail
   have hC1 := hC0.out
   have hX1 := hX0.out
   have hB1 := hB.out
   clear hC0 hX0 hB
   generalize w.alloc (.cells #[.int .i64 t, .int .u8 _, .int .u32 a2, .int .u8 a3, .string a4, .string a5, .slice _ len kc] 134) = w0 at hC1 hX1 hB1 x00 x01 x02 x03 x04 x05 x06 x10 x11 x12 x13 x14 x15 x16 hs0 hs1 ⊢
   have e5 : w0.cell? ⟨w.heap.size, 5, none⟩ = some (.string a5) := by simpa using hX1.cell 5
   have e6 : w0.cell? ⟨w.heap.size, 6, none⟩ = some (.slice (some ⟨b1, o1, none⟩) len kc) := by simpa using hX1.cell 6
   have hC1 := hid hC1
   have HB := hid hB1
   clear hX1 hB1
   refine wp_region_held_drew (S := (Below w0.heap.size w0)) (by kernel_rfl) (Below.refl _ _).drew (fun hHeld => ?_)
   refine tk 0 ?_
   refine tk 1 ?_ (hy := by intro w' hSw; have q5 := cell_on e5 hSw; go_simp; (try with_reducible rfl))
   refine tk 2 ?_
   refine tk 3 ?_
   refine tk 4 ?_
   refine tk 5 ?_ (hy := by intro w' hSw; have q6 := cell_on e6 hSw; go_simp; (try with_reducible rfl))
   refine tk 6 ?_
   refine tk 7 ?_ (hy := by intro w' hSw; have q0 := cell_on x00 hSw; have q1 := cell_on x01 hSw; have q2 := cell_on x02 hSw; have q3 := cell_on x03 hSw; have q4 := cell_on x04 hSw; have q5 := cell_on x05 hSw; have q6 := cell_on x06 hSw; go_simp; (try with_reducible rfl))
   refine tk 9 ?_
   refine tk 10 ?_
   refine tk 11 ?_
   refine tk 12 ?_ (hy := by intro w' hSw; have q6 := cell_on e6 hSw; go_simp; (try with_reducible rfl))
   refine tk 13 ?_
   refine tk 14 ?_ (hy := by intro w' hSw; have q0 := cell_on x10 hSw; have q1 := cell_on x11 hSw; have q2 := cell_on x12 hSw; have q3 := cell_on x13 hSw; have q4 := cell_on x14 hSw; have q5 := cell_on x15 hSw; have q6 := cell_on x16 hSw; go_simp; (try with_reducible rfl))
   refine tr 8 fun K hK => ?_
   go_simp
   go_at_call 84
   refine (IH.out t0 ⟨c00, c01, c02, c03, c04, c05⟩ kk0 (.slice xa0 kk0.len xc0) ty0 _ (by have := HN.out.1; (try simp only [] at hz0); omega) hx0 (hs0.sub (cells_old_below hHeld)) (hC1.out.below hHeld)).mono ?_
   rintro e w2 ⟨rfl, hb2⟩
   have hk := hHeld.trans (hb2.mono hHeld.size)
   clear hHeld
   go_wp2_with fail
   refine hK.out _ _ hk (fun hHeld => ?_)
   clear hK K hk
   try simp only [tpa, tpb, tpc, tpd, tpe]
   refine tr 15 fun K hK => ?_
   go_simp
   go_at_call 84
   refine (IH.out t1 ⟨c10, c11, c12, c13, c14, c15⟩ kk1 (.slice xa1 kk1.len xc1) ty1 _ (by have := HN.out.1; (try simp only [] at hz1); omega) hx1 (hs1.sub (cells_old_below hHeld)) (hC1.out.below hHeld)).mono ?_
   rintro e w2 ⟨rfl, hb2⟩
   have hk := hHeld.trans (hb2.mono hHeld.size)
   clear hHeld
   go_wp2_with fail
   refine hK.out _ _ hk (fun hHeld => ?_)
   clear hK K hk
   try simp only [tpa, tpb, tpc, tpd, tpe]
   refine tr 16 fun K hK => ?_
   go_simp
   go_at_call 119
   refine ((by have := binary119 a5 ty0 ty1; rw [hbin] at this; exact this _ : Calls Tryz.prog 119 #[.string a5, .int .u8 ty0, .int .u8 ty1] _ fun e w' => e = .returned (.int .u8 ty) ∧ w' = _)).mono ?_
   rintro e w2 ⟨rfl, hw⟩
   have hk := hHeld
   subst w2
   clear hHeld
   go_wp2_with fail
   refine hK.out _ _ hk (fun hHeld => ?_)
   clear hK K hk
   try simp only [tpa, tpb, tpc, tpd, tpe]
   refine tk 17 ?_
   refine td ?_
   go_wp2_with fail
   go_ret
   exact ⟨rfl, HB.out.trans (hHeld.mono HB.out.size)⟩
  ·obtain rfl : ty = a3 := by have := HT.out; simp only [tyH] at this; simpa using this.symm
   clear HT HN H4 H6 H7 H8 HC HV hC0 IH
   go_enter Tryz.func84, Tryz.ntmps84
   go_wp2_with fail
   go_ret
   exact ⟨rfl, hB.out⟩
end
section
open Go.Shelf
structure KV (p : Pt) (ve ve1 : EvS) (w w1 : World) : Prop where
 k : Kpt (p.TE ve) w.heap.size w w1
 v : Vc ve ve1 w.heap.size
theorem KV.refl (p : Pt) (ve : EvS) (w : World) : KV p ve ve w w := ⟨Kpt.refl _ _ _, Vc.refl _ _⟩
theorem KV.size {p : Pt} {ve ve1 : EvS} {w w1 : World} (h : KV p ve ve1 w w1) : w.heap.size ≤ w1.heap.size := h.k.size
theorem KV.below {p : Pt} {ve ve1 : EvS} {w w1 w2 : World} (h : KV p ve ve1 w w1) (hb : Below w1.heap.size w1 w2) : KV p ve ve1 w w2 := ⟨h.k.trans (Kpt.of (hb.mono h.size)), h.v⟩
theorem KV.trans {p : Pt} {ve ve1 ve2 : EvS} {w w1 w2 : World} (h : KV p ve ve1 w w1) (h2 : KV p ve1 ve2 w1 w2) : KV p ve ve2 w w2 := ⟨h.k.chain h.v h.size h2.k, h.v.trans h2.v h.size⟩
theorem KV.of (p : Pt) (ve : EvS) {w w1 : World} (hb : Below w.heap.size w w1) : KV p ve ve w w1 := (KV.refl p ve w).below hb
structure CtX (p : Pt) (cf : Cf) (u : UT) (n : Nat) (shp : List Nat) (d : Nat) (m : MS) (ve : EvS) (F : Nat) (fb : List BSc) (g cap : Nat) (ms : List Nat) (w : World) : Prop where
 c : CtR p cf u n d m ve F fb g cap ms w
 inv : Inv cf shp m
 rg : m.Rg
 frg : Fr.Rg (bareF fb)
theorem CtX.below {p : Pt} {cf : Cf} {u : UT} {n : Nat} {shp : List Nat} {d : Nat} {m : MS} {ve : EvS} {F : Nat} {fb : List BSc} {g cap : Nat} {ms : List Nat} {w w' : World} (h : CtX p cf u n shp d m ve F fb g cap ms w) (hb : Below w.heap.size w w') : CtX p cf u n shp d m ve F fb g cap ms w' := ⟨h.c.below hb, h.inv, h.rg, h.frg⟩
def PostX (p : Pt) (cf : Cf) (u : UT) (n : Nat) (shp : List Nat) (d F : Nat) (fb : List BSc) (g cap : Nat) (ms : List Nat) (ve : EvS) {α : Type} (P : α → Prop) (f : α → Ending) (o : Out α) (w : World) (e : Ending) (w' : World) : Prop := match o with
 | .ok x m => e = f x ∧ P x ∧ ∃ ve', CtX p cf u n shp d m ve' F fb g cap ms w' ∧ KV p ve ve' w w'
 | .stop x y m => e = endE x y ∧ ∃ ve' d', MeR p cf.allowed n d' m ve' w' ∧ KV p ve ve' w w'
 | .lost => True
section
variable {p : Pt} {cf : Cf} {u : UT} {n : Nat} {shp : List Nat} {d : Nat} {m : MS} {ve : EvS} {F : Nat} {fb : List BSc} {g cap : Nat} {ms : List Nat} {w w' : World}
theorem PostM.lift {α : Type} {P : α → Prop} {f : α → Ending} {o : Out α} {e : Ending} (hX : CtX p cf u n shp d m ve F fb g cap ms w) (hi : o.Ok cf shp) (hr : o.Rg P) (h : PostM p cf.allowed n d w.heap.size ve f o w e w') : PostX p cf u n shp d F fb g cap ms ve P f o w e w' := by
 cases o with
 | ok x m1 =>
  obtain ⟨h1, ve', h2, h3, h4⟩ := h
  have hi1 : Inv cf shp m1 := hi
  exact ⟨h1, hr.1, ve', ⟨hX.c.move h2 h3 (by rw [hi1.shape, hX.inv.shape]), hi1, hr.2, hX.frg⟩, ⟨h3, h4⟩⟩
 | stop x y m1 =>
  obtain ⟨h1, ve', d', h2, h3, h4⟩ := h
  exact ⟨h1, ve', d', h2, ⟨h3, h4⟩⟩
 | lost => trivial
theorem fin_ok {α : Type} {f : α → Ending} {x : α} {m1 : MS} {ve1 : EvS} {w1 : World} {e : Ending} (hX : CtX p cf u n shp d m1 ve1 F fb g cap ms w1) (hK : KV p ve ve1 w w1) (he : e = f x) : PostM p cf.allowed n d w.heap.size ve f (.ok x m1) w e w1 := ⟨he, ve1, hX.c.me, hK.k, hK.v⟩
theorem fin_stop {α : Type} {f : α → Ending} {x y : Int} {m1 : MS} {d1 : Nat} {ve1 : EvS} {w1 : World} {e : Ending} (hM : MeR p cf.allowed n d1 m1 ve1 w1) (hK : KV p ve ve1 w w1) (he : e = endE x y) : PostM p cf.allowed n d w.heap.size ve f (.stop x y m1) w e w1 := ⟨he, ve1, d1, hM, hK.k, hK.v⟩
theorem Kpt.at {T : Nat → Prop} {w w' : World} (h : Kpt T w.heap.size w w') {a : Addr} {v : Value} (hc : w.cell? a = some v) (ht : ¬ T a.block) : w'.cell? a = some v := by
 have hb := h.block a.block (World.block_lt_of_cell? _ _ hc) ht
 unfold World.cell? at hc ⊢
 rw [hb]
 exact hc
theorem CtR.boxcell (h : CtR p cf u n d m ve F fb g cap ms w) (hk : Kpt (p.TE ve) w.heap.size w w') {q i : Nat} {cs : Array Value} {t : TypeId} (hb : Bx w q cs t) (h1 : t ≠ 119) (h2 : t ≠ 52) (h3 : t ≠ 127) : w'.cell? ⟨q, i, none⟩ = cs[i]? :=
 (hk.box hb hb.lt (h.me.notBox hb h1 h2 h3)).cell i
theorem CtX.word (h : CtX p cf u n shp d m ve F fb g cap ms w) {s : ByteArray} {ty : Int} (ht : varT cf.vs (tysF fb) s = .ok ty) :
  ∃ b, ((readV cf (bareF fb) m s).1 = ty ∧ w.cell? ⟨b, 0, none⟩ = some (.int .u32 (readV cf (bareF fb) m s).2) ∧ w.frozen? ⟨b, 0, none⟩ = false ∧
    ((∃ x, seesB s fb = some x ∧ b = x.2) ∨ (seesB s fb = none ∧ ∃ (i : Nat) (hi : i < p.xs.length), placeOf cf s = i ∧ b = rowB p.xs[i] ∧ p.xs[i].ownBlock = some b))) ∧
   Calls Tryz.prog 76 #[.pointer (some ⟨p.M, 0, none⟩), .pointer (some ⟨F, 0, none⟩), .string s] w fun e w' => e = .returned (.tuple #[.pointer (some ⟨b, 0, none⟩), .int .u8 ty]) ∧ Below w.heap.size w w' := by
 obtain ⟨b, h1, h2⟩ := h.c.spot ht
 refine ⟨b, ?_, h2⟩
 unfold readV
 rw [seesB_bare]
 rcases h1 with ⟨x, q1, rfl, rfl⟩ | ⟨q1, i, hi, q2, rfl, rfl⟩
 ·rw [q1]
  obtain ⟨sc, r1, r2⟩ := seesB_mem q1
  have hb := h.c.fr.boxes sc r1 _ r2
  exact ⟨rfl, by simpa using hb.cell 0, hb.free 0, .inl ⟨x, rfl, rfl⟩⟩
 ·rw [q1]
  have hp : placeOf cf s = i := by unfold placeOf; rw [q2]; rfl
  have hi2 : i < m.held.length := by have := h.c.me.len; omega
  have hw := h.c.me.words i hi hi2
  have hl0 := (h.c.pos _ (List.getElem_mem hi2)).1
  obtain ⟨gx, cx, e1, k1, k2⟩ := row_shape hw hl0
  have hr : rowB p.xs[i] = gx := by rw [e1]; rfl
  have hob : p.xs[i].ownBlock = some gx := by rw [e1]; rfl
  obtain ⟨cs, hbx⟩ := row_block hw hob
  refine ⟨rfl, ?_, ?_, .inr ⟨rfl, i, hi, hp, rfl, by rw [hr]; exact hob⟩⟩
  ·rw [hr]
   have hw2 := hw
   rw [e1] at hw2
   have := hw2.cellAt 0 (by omega)
   rw [this]
   simp only [Option.map_none, wordsAt, hp, List.getD_eq_getElem?_getD, List.getElem?_eq_getElem hi2, Option.getD_some]
   simp [hl0]
  ·rw [hr]; exact hbx.free 0
end
/-! ### the evaluator at known kids -/
theorem tyFr_bare (fb : List BSc) : tyFr (bareF fb) = tysF fb := by
 simp only [tyFr, bareF, tysF, bareSc, tySc, List.map_map]
 apply List.map_congr_left
 intro a _
 simp [List.map_map]
theorem evK_at {ev : Evl} {d : Nat} {fr : Fr} {l : Exs} {i : Nat} {m : MS} {a : EH × Exs} (h : l.toL[i]? = some a) : evK ev d fr l i m = ev.E d fr a.1 a.2 m := by unfold evK; rw [h]
theorem typK_at {cf : Cf} {fb : List BSc} {l : Exs} {i : Nat} {a : EH × Exs} {t : Int} (h : l.toL[i]? = some a) (hx : XT cf (tysF fb) a.1 a.2 t) : typK cf (bareF fb) l i = t := by
 unfold typK
 rw [h]
 exact typF_ty cf _ _ _ (by rw [tyFr_bare]; exact hx.ty)
def WEx (p : Pt) (cf : Cf) (u : UT) (n : Nat) (shp : List Nat) (k : Nat) : Prop :=
 ∀ (d : Nat) (m : MS) (ve : EvS) (F : Nat) (fb : List BSc) (g cap : Nat) (ms : List Nat) (t : Int) (h : EH) (kids : Exs) (v : Value) (ty : Int) (w : World), XT cf (tysF fb) h kids ty → h.Wf → kids.Wf → SlE (onlyW w (oldB p.B)) false none kids v → CtX p cf u n shp d m ve F fb g cap ms w →
  (evl cf k).E d (bareF fb) h kids m ≠ .lost →
  Calls Tryz.prog 79 #[.pointer (some ⟨p.M, 0, none⟩), .pointer (some ⟨F, 0, none⟩), aggE t h v] w (PostX p cf u n shp d F fb g cap ms ve U (fun x => .returned (.int .u32 x)) ((evl cf k).E d (bareF fb) h kids m) w)
end
section
open Go.Shelf
theorem exprB_1 {cf : Cf} {ev : Evl} {d : Nat} {fr : Fr} {a0 a2 a3 : Int} {a4 a5 : ByteArray} {k : Exs} {m : MS} : exprB cf ev d fr ⟨a0, 1, a2, a3, a4, a5⟩ k m = .ok a2 m := by
 unfold exprB
 exact if_pos (show (1 : Int) = 1 ∨ (1 : Int) = 2 by decide)
theorem exprB_2 {cf : Cf} {ev : Evl} {d : Nat} {fr : Fr} {a0 a2 a3 : Int} {a4 a5 : ByteArray} {k : Exs} {m : MS} : exprB cf ev d fr ⟨a0, 2, a2, a3, a4, a5⟩ k m = .ok a2 m := by
 unfold exprB
 exact if_pos (show (2 : Int) = 1 ∨ (2 : Int) = 2 by decide)
theorem exprB_3 {cf : Cf} {ev : Evl} {d : Nat} {fr : Fr} {a0 a2 a3 : Int} {a4 a5 : ByteArray} {k : Exs} {m : MS} : exprB cf ev d fr ⟨a0, 3, a2, a3, a4, a5⟩ k m = .ok (readV cf fr m a4).2 m := by
 unfold exprB
 exact (if_neg (show ¬ ((3 : Int) = 1 ∨ (3 : Int) = 2) by decide)).trans (if_pos (show (3 : Int) = 3 by decide))
theorem exprB_4 {cf : Cf} {ev : Evl} {d : Nat} {fr : Fr} {a0 a2 a3 : Int} {a4 a5 : ByteArray} {k : Exs} {m : MS} : exprB cf ev d fr ⟨a0, 4, a2, a3, a4, a5⟩ k m = (evK ev d fr k 0 m).bind fun i m => match (wordsAt cf m a4)[i.toNat]? with
  | some x => .ok x m
  | none => .stop 2 1 m := by
 unfold exprB
 exact (if_neg (show ¬ ((4 : Int) = 1 ∨ (4 : Int) = 2) by decide)).trans ((if_neg (show ¬ ((4 : Int) = 3) by decide)).trans (if_pos (show (4 : Int) = 4 by decide)))
theorem exprB_5 {cf : Cf} {ev : Evl} {d : Nat} {fr : Fr} {a0 a2 a3 : Int} {a4 a5 : ByteArray} {k : Exs} {m : MS} : exprB cf ev d fr ⟨a0, 5, a2, a3, a4, a5⟩ k m = (evArgs ev d fr k m).bind fun args m => match getM a4 cf.cs with
  | none => .lost
  | some g => if g.host < 0 then ev.F d g args m else hostV cf g args m := by
 unfold exprB
 exact (if_neg (show ¬ ((5 : Int) = 1 ∨ (5 : Int) = 2) by decide)).trans ((if_neg (show ¬ ((5 : Int) = 3) by decide)).trans ((if_neg (show ¬ ((5 : Int) = 4) by decide)).trans (if_pos (show (5 : Int) = 5 by decide))))
theorem exprB_6 {cf : Cf} {ev : Evl} {d : Nat} {fr : Fr} {a0 a2 a3 : Int} {a4 a5 : ByteArray} {k : Exs} {m : MS} : exprB cf ev d fr ⟨a0, 6, a2, a3, a4, a5⟩ k m = (evK ev d fr k 0 m).bind fun v m =>
  if a5.toList == [126] then .ok (cf.alu.U 49 v) m
  else if a5.toList == [33] then .ok (truth (v == 0)) m
  else if typK cf fr k 0 = 2 then .ok (cf.alu.U 53 v) m else .ok (cf.alu.U 38 v) m := by
 unfold exprB
 exact (if_neg (show ¬ ((6 : Int) = 1 ∨ (6 : Int) = 2) by decide)).trans ((if_neg (show ¬ ((6 : Int) = 3) by decide)).trans ((if_neg (show ¬ ((6 : Int) = 4) by decide)).trans ((if_neg (show ¬ ((6 : Int) = 5) by decide)).trans (if_pos (show (6 : Int) = 6 by decide)))))
theorem exprB_7 {cf : Cf} {ev : Evl} {d : Nat} {fr : Fr} {a0 a2 a3 : Int} {a4 a5 : ByteArray} {k : Exs} {m : MS} : exprB cf ev d fr ⟨a0, 7, a2, a3, a4, a5⟩ k m = (evK ev d fr k 0 m).bind fun a m =>
  if a5.toList == [38, 38] && a == 0 then .ok 0 m
  else if a5.toList == [124, 124] && a != 0 then .ok 1 m
  else (evK ev d fr k 1 m).bind fun b m =>
   if a5.toList == [38, 38] || a5.toList == [124, 124] then .ok (truth (b != 0)) m
   else match workedV cf.alu a5 (typK cf fr k 0) a b with
    | some x => .ok x m
    | none => .stop 2 2 m := by
 unfold exprB
 exact (if_neg (show ¬ ((7 : Int) = 1 ∨ (7 : Int) = 2) by decide)).trans ((if_neg (show ¬ ((7 : Int) = 3) by decide)).trans ((if_neg (show ¬ ((7 : Int) = 4) by decide)).trans ((if_neg (show ¬ ((7 : Int) = 5) by decide)).trans ((if_neg (show ¬ ((7 : Int) = 6) by decide)).trans (if_pos (show (7 : Int) = 7 by decide))))))
theorem exprB_8 {cf : Cf} {ev : Evl} {d : Nat} {fr : Fr} {a0 a2 a3 : Int} {a4 a5 : ByteArray} {k : Exs} {m : MS} : exprB cf ev d fr ⟨a0, 8, a2, a3, a4, a5⟩ k m = (evK ev d fr k 0 m).bind fun v m =>
  if typK cf fr k 0 = a3 then .ok v m else if a3 = 1 then .ok (cf.alu.U 59 v) m else .ok (cf.alu.U 58 v) m := by
 unfold exprB
 exact (if_neg (show ¬ ((8 : Int) = 1 ∨ (8 : Int) = 2) by decide)).trans ((if_neg (show ¬ ((8 : Int) = 3) by decide)).trans ((if_neg (show ¬ ((8 : Int) = 4) by decide)).trans ((if_neg (show ¬ ((8 : Int) = 5) by decide)).trans ((if_neg (show ¬ ((8 : Int) = 6) by decide)).trans ((if_neg (show ¬ ((8 : Int) = 7) by decide)).trans (if_pos (show (8 : Int) = 8 by decide)))))))
theorem lit74 (F : Nat) (a0 a1 a2 a3 : Int) (a4 a5 : ByteArray) (ka : Option Addr) (len kc : Nat) (w : World) :
  Calls Tryz.prog 74 #[.pointer (some ⟨F, 0, none⟩), .agg #[.int .i64 a0, .int .u8 a1, .int .u32 a2, .int .u8 a3, .string a4, .string a5, .slice ka len kc]] w fun e w' => e = .returned (.int .u32 a2) ∧ Below w.heap.size w w' := by
 have hB := hid ((Below.refl w.heap.size w).alloc (Nat.le_refl _) (.cells #[.int .i64 a0, .int .u8 a1, .int .u32 a2, .int .u8 a3, .string a4, .string a5, .slice ka len kc] 134))
 go_enter Tryz.func74, Tryz.ntmps74
 go_wp2_with fail
 go_ret
 exact ⟨rfl, hB.out⟩
theorem name75 (p : Pt) (cf : Cf) (u : UT) (n : Nat) (shp : List Nat) (k d : Nat) (m : MS) (ve : EvS) (F : Nat) (fb : List BSc) (g cap : Nat) (ms : List Nat) (a0 a2 a3 : Int) (a4 a5 : ByteArray) (kids : Exs) (v : Value) (ty : Int) (w : World) (HE : Hid (WEx p cf u n shp k)) (hx : XT cf (tysF fb) ⟨a0, 3, a2, a3, a4, a5⟩ kids ty) (hkw : kids.Wf) (hv : SlE (onlyW w (oldB p.B)) false none kids v) (hX : CtX p cf u n shp d m ve F fb g cap ms w) (hnl : exprB cf (evl cf k) d (bareF fb) ⟨a0, 3, a2, a3, a4, a5⟩ kids m ≠ .lost) :
  Calls Tryz.prog 75 #[.pointer (some ⟨F, 0, none⟩), aggE a0 ⟨a0, 3, a2, a3, a4, a5⟩ v, .pointer (some ⟨p.kc, 0, none⟩)] w (PostM p cf.allowed n d w.heap.size ve (fun x => .returned (.int .u32 x)) (exprB cf (evl cf k) d (bareF fb) ⟨a0, 3, a2, a3, a4, a5⟩ kids m) w) := by
 obtain ⟨ka, kc, rfl⟩ := hv.shape'
 obtain ⟨ks, hks, hty⟩ := hx.kinds
 have hn := okH_n hx.ok
 obtain ⟨R, hR⟩ : ∃ x, x = (PostM p cf.allowed n d w.heap.size ve (fun x => .returned (.int .u32 x)) (exprB cf (evl cf k) d (bareF fb) ⟨a0, 3, a2, a3, a4, a5⟩ kids m) w) := ⟨_, rfl⟩
 rw [← hR]
 have HR := hid hR
 clear hR
 simp only [] at hn ⊢
 have hvt : varT cf.vs (tysF fb) a4 = .ok ty := by simpa [tyH] using hty
 obtain ⟨len, hlen⟩ : ∃ q, q = kids.len := ⟨_, rfl⟩
 rw [← hlen] at hv hn ⊢
 have hB0 := (Below.refl w.heap.size w).alloc (Nat.le_refl _) (.cells #[.int .i64 a0, .int .u8 3, .int .u32 a2, .int .u8 a3, .string a4, .string a5, .slice ka len kc] 134)
 have hX0 := hX.below hB0
 have hb0 := Bx.new w #[.int .i64 a0, .int .u8 3, .int .u32 a2, .int .u8 a3, .string a4, .string a5, .slice ka len kc] 134
 obtain ⟨b, ⟨r1, r2, r3, -⟩, cx⟩ := hX0.word hvt
 have CX := hid cx
 have EK := hid (show _ = _ from hX0.c.boxcell (i := 0) (Kpt.refl _ _ _) hX0.c.st.kbox (by decide) (by decide) (by decide))
 have HX := hid hX0
 have HB := hid hB0
 have RB := hid r2
 have e := EK.out
 simp at e
 clear hv hx hnl hX hX0 cx hb0 hB0 r1 r2 r3 hks hty hn hvt HE hlen
 go_enter Tryz.func75, Tryz.ntmps75
 go_wp2_with fail
 refine CX.out.mono ?_
 rintro e w2 ⟨rfl, hb2⟩
 have rb := cell_on RB.out hb2
 have H2 := hid hb2
 clear hb2 CX
 go_wp2_with fail
 rw [HR.out, exprB_3]
 exact fin_ok (HX.out.below H2.out) (KV.of p ve (HB.out.trans (H2.out.mono HB.out.size))) rfl
theorem index77 (p : Pt) (cf : Cf) (u : UT) (n : Nat) (shp : List Nat) (k d : Nat) (m : MS) (ve : EvS) (F : Nat) (fb : List BSc) (g cap : Nat) (ms : List Nat) (a0 a2 a3 : Int) (a4 a5 : ByteArray) (kids : Exs) (v : Value) (ty : Int) (w : World) (HE : Hid (WEx p cf u n shp k)) (hx : XT cf (tysF fb) ⟨a0, 4, a2, a3, a4, a5⟩ kids ty) (hkw : kids.Wf) (hv : SlE (onlyW w (oldB p.B)) false none kids v) (hX : CtX p cf u n shp d m ve F fb g cap ms w) (hnl : exprB cf (evl cf k) d (bareF fb) ⟨a0, 4, a2, a3, a4, a5⟩ kids m ≠ .lost) :
  Calls Tryz.prog 77 #[.pointer (some ⟨F, 0, none⟩), aggE a0 ⟨a0, 4, a2, a3, a4, a5⟩ v, .pointer (some ⟨p.kc, 0, none⟩)] w (PostM p cf.allowed n d w.heap.size ve (fun x => .returned (.int .u32 x)) (exprB cf (evl cf k) d (bareF fb) ⟨a0, 4, a2, a3, a4, a5⟩ kids m) w) := by
 obtain ⟨ka, kc, rfl⟩ := hv.shape'
 obtain ⟨ks, hks, hty⟩ := hx.kinds
 have hn := okH_n hx.ok
 obtain ⟨R, hR⟩ : ∃ x, x = (PostM p cf.allowed n d w.heap.size ve (fun x => .returned (.int .u32 x)) (exprB cf (evl cf k) d (bareF fb) ⟨a0, 4, a2, a3, a4, a5⟩ kids m) w) := ⟨_, rfl⟩
 rw [← hR]
 have HR := hid hR
 clear hR
 simp only [] at hn ⊢
 obtain ⟨ln, hvs, -⟩ := tyH_4 hty
 have hl : kids.len = 1 := hn.2.1 (by trivial)
 obtain ⟨len, hlen⟩ : ∃ q, q = kids.len := ⟨_, rfl⟩
 rw [← hlen] at hv hl hn ⊢
 have hl0 : 0 < len := by omega
 obtain ⟨b0, o0, t0, xa0, xc0, k0, hk0, hka0, hr0, hs0⟩ := hv.kidW (w' := w) 0 (by omega)
 obtain ⟨ty0, hx0, hy0⟩ := tyE_xt hx.kids hks 0 k0 hk0
 have hw0 := Exs.wf_at hkw 0 k0 hk0
 have hk0 := hid hk0
 subst hka0
 have hB0 := (Below.refl w.heap.size w).alloc (Nat.le_refl _) (.cells #[.int .i64 a0, .int .u8 4, .int .u32 a2, .int .u8 a3, .string a4, .string a5, .slice (some ⟨b0, o0, none⟩) len kc] 134)
 have hX0 := hX.below hB0
 have hb0 := Bx.new w #[.int .i64 a0, .int .u8 4, .int .u32 a2, .int .u8 a3, .string a4, .string a5, .slice (some ⟨b0, o0, none⟩) len kc] 134
 clear hl hlen hn
 go_enter Tryz.func77, Tryz.ntmps77
 go_wp2_with fail
 generalize w.alloc (.cells #[.int .i64 a0, .int .u8 4, .int .u32 a2, .int .u8 a3, .string a4, .string a5, .slice (some ⟨b0, o0, none⟩) len kc] 134) = w0 at hX0 hb0 hB0 ⊢
 have K0 : Hid (∀ w', Kpt (p.TE ve) w0.heap.size w0 w' → KidR w' b0 (o0) t0 k0 (.slice xa0 k0.2.len xc0)) := hid fun w' hk => by
  have h := ((hr0.sub (cells_old_below hB0)).sub (hX0.c.cells hk)).sub (cells_only _ _)
  simpa only [Nat.zero_mul, Nat.add_zero, Nat.one_mul] using h
 have E4 : Hid (∀ w', Kpt (p.TE ve) w0.heap.size w0 w' → w'.cell? ⟨w.heap.size, 4, none⟩ = some (.string a4)) := hid fun w' hk => by simpa using hX0.c.boxcell (i := 4) hk hb0 (by decide) (by decide) (by decide)
 have E6 : Hid (∀ w', Kpt (p.TE ve) w0.heap.size w0 w' → w'.cell? ⟨w.heap.size, 6, none⟩ = some (.slice (some ⟨b0, o0, none⟩) len kc)) := hid fun w' hk => by simpa using hX0.c.boxcell (i := 6) hk hb0 (by decide) (by decide) (by decide)
 have EK : Hid (∀ w', Kpt (p.TE ve) w0.heap.size w0 w' → w'.cell? ⟨p.kc, 0, none⟩ = some (.pointer (some ⟨p.M, 0, none⟩))) := hid fun w' hk => by simpa using hX0.c.boxcell (i := 0) hk hX0.c.st.kbox (by decide) (by decide) (by decide)
 have DR := hid ((KV.of p ve hB0).below (Below.refl w0.heap.size w0).drew)
 have W0 := hid (KV.of p ve (Below.refl w0.heap.size w0).drew)
 have hh := hid (show exprB cf (evl cf k) d (bareF fb) ⟨a0, 4, a2, a3, a4, a5⟩ kids m = _ by rw [exprB_4, evK_at hk0.out])
 have hnl0 : (evl cf k).E d (bareF fb) k0.1 k0.2 m ≠ .lost := Out.of_bind (f := fun i m => match (wordsAt cf m a4)[i.toNat]? with
   | some x => .ok x m
   | none => .stop 2 1 m) (by rw [← hh.out]; exact hnl)
 have cx := hid (HE.out d m ve F fb g cap ms t0 k0.1 k0.2 _ ty0 w0.drew hx0 hw0.1 hw0.2 (hs0.sub (cells_old_below (hB0.trans ((Below.refl w0.heap.size w0).drew.mono hB0.size)))) (hX0.below (Below.refl _ _).drew) hnl0)
 obtain ⟨⟨c0, c1, c2, c3, c4, c5⟩, kk⟩ := k0
 clear hx hkw hv hr0 hs0 hx0 hy0 hw0 hty hks hnl HE hX0 hb0 hB0
 refine wp_region_held_drew (S := (Kpt (p.TE ve) w0.heap.size w0)) (by kernel_rfl) (Kpt.of (Below.refl _ _).drew) (fun hHeld => ?_)
 refine tk 0 ?_ (hy := by intro w' hSw; have q := EK.out w' hSw; go_simp; (try with_reducible rfl))
 refine tk 1 ?_
 refine tk 2 ?_ (hy := by intro w' hSw; have q := E4.out w' hSw; go_simp; (try with_reducible rfl))
 refine tk 3 ?_ (hy := by intro w' hSw; have q := EK.out w' hSw; go_simp; (try with_reducible rfl))
 refine tk 4 ?_
 refine tk 5 ?_
 refine tk 6 ?_ (hy := by intro w' hSw; have q := E6.out w' hSw; go_simp; (try with_reducible rfl))
 refine tk 7 ?_
 refine tk 8 ?_ (hy := by intro w' hSw; obtain ⟨q0, q1, q2, q3, q4, q5, q6⟩ := K0.out w' hSw; go_simp; (try with_reducible rfl))
 refine tr 9 fun K hK => ?_
 go_simp
 go_at_call 79
 cases ho : (evl cf k).E d (bareF fb) ⟨c0, c1, c2, c3, c4, c5⟩ kk m with
 | lost => exact absurd ho hnl0
 | stop a b m1 =>
  simp only [] at cx hh
  rw [ho] at cx hh
  have hh := hid (show _ = Out.stop a b m1 from hh.out)
  refine cx.out.mono ?_
  rintro e w1 ⟨rfl, ve1, d1, hM1, hV1⟩
  have F1 : Hid (PostM p cf.allowed n d w.heap.size ve (fun x => .returned (.int .u32 x)) (.stop a b m1) w (endE a b) w1) := hid (fin_stop hM1 (DR.out.trans hV1) rfl)
  clear hM1 hV1 cx hK hHeld
  go_wp2_with fail
  refine bp_panic ?_
  rw [HR.out, hh.out]
  exact F1.out
 | ok x m1 =>
  simp only [] at cx hh
  rw [ho] at cx hh
  have hh : Hid (exprB cf (evl cf k) d (bareF fb) ⟨a0, 4, a2, a3, a4, a5⟩ kids m = match (wordsAt cf m1 a4)[x.toNat]? with
   | some x => .ok x m1
   | none => .stop 2 1 m1) := hid hh.out
  obtain ⟨i, hp, hi⟩ := hX.c.st.pl a4 _ hvs
  have hpl : placeOf cf a4 = i := by unfold placeOf; rw [hp]; rfl
  refine cx.out.mono ?_
  rintro e w1 ⟨rfl, hU, ve1, hX1, hV1⟩
  have hi2 : i < m1.held.length := by have := hX1.c.me.len; omega
  have hwd : wordsAt cf m1 a4 = m1.held[i] := by unfold wordsAt; rw [hpl, List.getD_eq_getElem?_getD, List.getElem?_eq_getElem hi2]; rfl
  have hps := hX1.c.pos _ (List.getElem_mem hi2)
  have hwr := hX1.c.me.words i hi hi2
  have c78 := hid (element78 p cf u cf.allowed n d m1 ve1 a4 i x w1 hX1.c.st hX1.c.me hp hi hi2 hps.1 hps.2 hU)
  rw [hwd] at hh
  obtain ⟨gx, cx2, e1, -, -⟩ := row_shape hwr hps.1
  have hgx : rowB p.xs[i] = gx := by rw [e1]; rfl
  rw [hgx] at c78
  rw [e1] at hwr
  have hk := (W0.out.trans hV1).k
  have X1 := hid hX1
  have V1 := hid (DR.out.trans hV1)
  have V1w := hid (W0.out.trans hV1)
  have U1 := hid hU
  have W1 := hid hwr
  have DR2 := DR
  generalize m1.held[i] = lw at c78 hh hwr W1 hps
  clear hHeld hX1 hV1 hU hwr hi2 hwd hp hi hpl cx hgx hps e1
  go_wp2_with fail
  refine hK.out _ _ hk (fun hHeld => ?_)
  clear hK K hk
  try simp only [tpa, tpb, tpc, tpd, tpe]
  refine tr 10 fun K hK => ?_
  go_simp
  go_at_call 78
  unfold elOut at c78
  by_cases hc : (lw.length : Int) ≤ x
  ·rw [if_pos hc] at c78
   have hz := hid (show exprB cf (evl cf k) d (bareF fb) ⟨a0, 4, a2, a3, a4, a5⟩ kids m = .stop 2 1 m1 by rw [hh.out, List.getElem?_eq_none (by have := U1.out.1; omega)])
   refine c78.out.mono ?_
   rintro e w2 ⟨rfl, hb2⟩
   have F2 : Hid (PostM p cf.allowed n d w.heap.size ve (fun x => .returned (.int .u32 x)) (.stop 2 1 m1) w (endE 2 1) w2) := hid (fin_stop (X1.out.c.me.below hb2) (V1.out.below hb2) rfl)
   clear c78 hK hHeld hb2
   go_wp2_with fail
   refine bp_panic ?_
   rw [HR.out, hz.out]
   exact F2.out
  ·rw [if_neg hc] at c78
   have hlt : x.toNat < lw.length := by have := U1.out.1; omega
   have hz := hid (show exprB cf (evl cf k) d (bareF fb) ⟨a0, 4, a2, a3, a4, a5⟩ kids m = .ok lw[x.toNat] m1 by rw [hh.out, List.getElem?_eq_getElem hlt])
   refine c78.out.mono ?_
   rintro e w2 ⟨rfl, hb2⟩
   have hcell : w2.cell? ⟨gx, x.toNat, none⟩ = some (.int .u32 lw[x.toNat]) := by
     rw [cell_on (v := .int .u32 lw[x.toNat]) ?_ hb2]
     rw [W1.out.cellAt x.toNat (by omega)]
     simp [hlt]
   have F2 : Hid (PostM p cf.allowed n d w.heap.size ve (fun x => .returned (.int .u32 x)) (.ok lw[x.toNat] m1) w (.returned (.int .u32 lw[x.toNat])) w2) := hid (fin_ok (X1.out.below hb2) (V1.out.below hb2) rfl)
   have hk := (V1w.out.below hb2).k
   clear hHeld c78 hb2
   generalize lw[x.toNat] = y at hz hcell F2
   go_wp2_with fail
   refine hK.out _ _ hk (fun hHeld => ?_)
   clear hK K hk
   try simp only [tpa, tpb, tpc, tpd, tpe]
   refine tk 11 ?_
   refine tr 12 fun K hK => ?_
   go_simp
   refine hK.out _ _ hHeld (fun hHeld => ?_)
   clear hK K
   try simp only [tpa, tpb, tpc, tpd, tpe]
   refine tk 13 ?_
   refine td ?_
   go_wp2_with fail
   rw [HR.out, hz.out]
   exact F2.out
end
end Go.Proofs.YtlabadkfkbenoaaGreatDoor
