/- Walks and plain laws, merged: ChkH ChkI. No condition. -/
import Derived.Test.YtlabadkfkbenoaaGreatDoorProg
import Derived.Outline
import Derived.Test.YtlabadkfkbenoaaGreatDoorKn10
namespace Go.Proofs.YtlabadkfkbenoaaGreatDoor
open Go.RowKit
set_option linter.unusedVariables false
set_option linter.unusedSimpArgs false
set_option maxRecDepth 100000
section
open Go.Shelf
def okS : Sts → Bool
 | .nil => true
 | .cons h x b e r => okSH h x.len x.fk b.len e.len && (okS b && (okS e && (okE x && okS r)))
theorem SlE.first {w : World} {p : Bool} {o : Option (Nat → Prop)} {l : Exs} {ka : Option Addr} {n cap : Nat} (h : SlE w p o l (.slice ka n cap)) : n = l.len ∧ (n = 0 ∨ ∃ b o, ka = some ⟨b, o, none⟩ ∧ w.cell? ⟨b, o + 1, none⟩ = some (.int .u8 l.fk)) := by
 obtain ⟨ka', kb, koff, kcap, hv, y2, y3⟩ := h
 cases hv
 refine ⟨rfl, ?_⟩
 cases l with
 | nil => exact .inl rfl
 | cons h k r =>
  rcases y2 with ⟨q, _⟩ | ⟨rfl, _⟩
  ·simp [Exs.len] at q
  ·have := y3.cons.1.c1
   refine .inr ⟨_, _, rfl, ?_⟩
   simpa [Exs.fk] using this
theorem SlE.shape' {w : World} {p : Bool} {o : Option (Nat → Prop)} {l : Exs} {v : Value} (h : SlE w p o l v) : ∃ a c, v = .slice a l.len c := by
 obtain ⟨ka', kb, koff, kcap, hv, y2, y3⟩ := h
 exact ⟨_, _, hv⟩
theorem SlS.shape' {w : World} {p : Bool} {o : Option (Nat → Prop)} {l : Sts} {v : Value} (h : SlS w p o l v) : ∃ a c, v = .slice a l.len c := by
 obtain ⟨ka', kb, koff, kcap, hv, y2, y3⟩ := h
 exact ⟨_, _, hv⟩
theorem okS_1 {h : SH} {x : Exs} {b e r : Sts} (h1 : okSH h x.len x.fk b.len e.len = false) : okS (.cons h x b e r) = false := by simp only [okS, h1, Bool.false_and]
theorem okS_2 {h : SH} {x : Exs} {b e r : Sts} (h1 : okS b = false) : okS (.cons h x b e r) = false := by simp only [okS, h1, Bool.false_and, Bool.and_false]
theorem okS_3 {h : SH} {x : Exs} {b e r : Sts} (h1 : okS e = false) : okS (.cons h x b e r) = false := by simp only [okS, h1, Bool.false_and, Bool.and_false]
theorem okS_4 {h : SH} {x : Exs} {b e r : Sts} (h1 : okE x = false) : okS (.cons h x b e r) = false := by simp only [okS, h1, Bool.false_and, Bool.and_false]
theorem okS_5 {h : SH} {x : Exs} {b e r : Sts} (h1 : okSH h x.len x.fk b.len e.len = true) (h2 : okS b = true) (h3 : okS e = true) (h4 : okE x = true) : okS (.cons h x b e r) = okS r := by simp only [okS, h1, h2, h3, h4, Bool.true_and]
set_option maxHeartbeats 8000000 in
theorem fits32 : ∀ (n : Nat) (l : Sts) (v : Value) (w : World), l.sz < n → l.sz ≤ 100000000 → l.Wf → SlS w false none l v →
  Calls Tryz.prog 137 #[v] w fun e w' => e = .returned (.bool (okS l)) ∧ Below w.heap.size w w' := by
 intro n
 induction n with
 | zero => intro l v w hn; omega
 | succ n ih =>
  have IH := hid ih
  clear ih
  intro l v w hn hs hwf hv
  obtain ⟨ka, b, off, c, rfl, hka, hin⟩ := hv
  have hl := l.len_le
  have hS := hid (And.intro hn hs)
  have hI := hid hin
  have hkb : l.len ≤ 100000000 := by omega
  have hW := hid hwf
  obtain ⟨len, hlen⟩ : ∃ m, m = l.len := ⟨_, rfl⟩
  rw [← hlen] at hka hl hkb ⊢
  have hLen := hid hlen
  clear hn hs hin hwf hlen
  go_enter Tryz.func137, Tryz.ntmps137
  go_wp2_with fail
  go_loopw [2, 9] (fun z i wr => ∃ (k : Nat) (r : Sts), z = .bool false ∧ k + r.len = len ∧ i = .int .i64 k ∧ StsIn w false none r b off k ∧ r.sz ≤ l.sz ∧ r.Wf ∧ okS l = okS r ∧ Below w.heap.size w wr) (fun _ i _ => len - (intOf i).toNat)
  case atStart => exact ⟨0, l, rfl, by have := hLen.out; omega, rfl, hI.out, Nat.le_refl _, hW.out, rfl, Below.refl _ _⟩
  case round =>
   clear hI
   obtain ⟨k, r, rfl, hk, rfl, hr, hz, hrw, hok, hb⟩ := hrel
   obtain ⟨wo, rfl⟩ : ∃ wo : World, wo = wr := ⟨_, rfl⟩
   have hB := hid hb
   have hOK := hid hok
   cases r with
   | nil =>
    simp only [Sts.len, Nat.add_zero] at hk
    subst k
    clear hr hz hrw hok hb
    go_wp2_with fail
    go_ret
    exact ⟨ret_bool hOK.out.symm, hB.out⟩
   | cons h x body els rest =>
    simp only [Sts.len, Sts.sz] at hk hz
    obtain ⟨hw1, hw2, hw3, hw4, hw5⟩ := hrw
    obtain ⟨⟨⟨t, y0, _⟩, y1, y2, y3, y4⟩, ⟨vx, y5, hx⟩, ⟨vb, y6, hbd⟩, ⟨ve, y7, he⟩, hR⟩ := hr.cons
    have x0 := cell_on y0 hb
    have x1 := cell_on y1 hb
    have x2 := cell_on y2 hb
    have x3 := cell_on y3 hb
    have x4 := cell_on y4 hb
    have x5 := cell_on y5 hb
    have x6 := cell_on y6 hb
    have x7 := cell_on y7 hb
    have hkk : k < len := by omega
    have hka2 : ka = some ⟨b, off, none⟩ := by rcases hka with q | q; (· omega); (· exact q.1)
    subst hka2
    obtain ⟨xa, xc, rfl⟩ := hx.shape'
    obtain ⟨ba, bc, rfl⟩ := hbd.shape'
    obtain ⟨ea, ec, rfl⟩ := he.shape'
    obtain ⟨xb, xo, hxa, hxin⟩ : ∃ xb xo, (x.len = 0 ∨ xa = some ⟨xb, xo, none⟩) ∧ ExsIn w false none x xb xo 0 := by
     obtain ⟨ka', kb, koff, kcap, hv, y2, y3⟩ := hx
     cases hv
     exact ⟨kb, koff, y2.imp And.left And.left, y3⟩
    have hxl := x.len_le
    have hbl := body.len_le
    have hel := els.len_le
    obtain ⟨a0, a1, a2, a3, a4⟩ := h
    have hxlen : x.len ≤ 100000000 := by have := hS.out; omega
    have hX := hid (And.intro hx (And.intro hbd he))
    have hXW := hid (And.intro hw2 (And.intro hw3 hw4))
    have hXI := hid hxin
    have hBW : Hid (∀ {w2 : World}, Below (wo.alloc (.cells #[.int .i64 t, .int .u8 a1, .string a2, .int .u8 a3, .string a4, .slice xa x.len xc, .slice ba body.len bc, .slice ea els.len ec] 109)).heap.size (wo.alloc (.cells #[.int .i64 t, .int .u8 a1, .string a2, .int .u8 a3, .string a4, .slice xa x.len xc, .slice ba body.len bc, .slice ea els.len ec] 109)) w2 → Below w.heap.size w w2) := hid (fun h => below_own hB.out h)
    have hBx := hid (Bx.new wo #[.int .i64 t, .int .u8 a1, .string a2, .int .u8 a3, .string a4, .slice xa x.len xc, .slice ba body.len bc, .slice ea els.len ec] 109)
    have hfirst := (hX.out.1.mono (hBW.out (Below.refl _ _))).first.2
    have hCall := hid (fits44 t a1 a2 a3 a4 xa ba ea x.len xc body.len bc els.len ec x.fk (wo.alloc (.cells #[.int .i64 t, .int .u8 a1, .string a2, .int .u8 a3, .string a4, .slice xa x.len xc, .slice ba body.len bc, .slice ea els.len ec] 109)) hw1 hfirst hxlen)
    have hSz := hid hz
    have hRR := hid (And.intro hR hw5)
    clear hka hr hR hz hb y0 y1 y2 y3 y4 y5 y6 y7 hok hw1 hw2 hw3 hw4 hw5 hx hbd he hxin hfirst hxl hbl hel
    go_wp2_with fail
    refine hCall.out.mono ?_
    rintro e w2 ⟨rfl, hb2⟩
    have hX2 := hid (hBx.out.on (grown_of_below hb2) (by simp))
    have hB2 := hid (hBW.out hb2)
    have p5 := hX2.out.cell 5
    have p6 := hX2.out.cell 6
    have p7 := hX2.out.cell 7
    have pl := hX2.out.lt
    simp at p5 p6 p7
    clear hb2 hCall x0 x1 x2 x3 x4 x5 x6 x7 hBW hBx
    have e1 : Hid (okSH ⟨t, a1, a2, a3, a4⟩ x.len x.fk body.len els.len = okSH ⟨a0, a1, a2, a3, a4⟩ x.len x.fk body.len els.len) := hid rfl
    cases h1 : okSH ⟨t, a1, a2, a3, a4⟩ x.len x.fk body.len els.len
    ·have hE := hid (hOK.out.trans (okS_1 (by rw [← e1.out]; exact h1)))
     go_wp2_with fail
     go_ret
     exact ⟨ret_bool hE.out.symm, hB2.out⟩
    have g1 := hid (e1.out.symm.trans h1)
    clear h1 e1
    have hCall := hid (IH.out body (.slice ba body.len bc) w2 (by have := hS.out; have := hSz.out; omega) (by have := hS.out; have := hSz.out; omega) hXW.out.2.1 (hX.out.2.1.mono hB2.out))
    go_wp2_with fail
    refine hCall.out.mono ?_
    rintro e w3 ⟨rfl, hb3⟩
    have hX3 := hid (hX2.out.on (grown_of_below hb3) (by simp))
    have hB3 := hid (hB2.out.trans (hb3.mono hB2.out.size))
    clear hb3 hCall p5 p6 p7 pl hX2 hB2
    have p5 := hX3.out.cell 5
    have p7 := hX3.out.cell 7
    simp at p5 p7
    cases h2 : okS body
    ·have hE := hid (hOK.out.trans (okS_2 h2))
     go_wp2_with fail
     go_ret
     exact ⟨ret_bool hE.out.symm, hB3.out⟩
    have g2 := hid h2
    clear h2
    have hCall := hid (IH.out els (.slice ea els.len ec) w3 (by have := hS.out; have := hSz.out; omega) (by have := hS.out; have := hSz.out; omega) hXW.out.2.2 (hX.out.2.2.mono hB3.out))
    go_wp2_with fail
    refine hCall.out.mono ?_
    rintro e w4 ⟨rfl, hb4⟩
    have hX4 := hid (hX3.out.on (grown_of_below hb4) (by simp))
    have hB4 := hid (hB3.out.trans (hb4.mono hB3.out.size))
    clear hb4 hCall p5 p7 hX3 hB3
    have p5 := hX4.out.cell 5
    simp at p5
    cases h3 : okS els
    ·have hE := hid (hOK.out.trans (okS_3 h3))
     go_wp2_with fail
     go_ret
     exact ⟨ret_bool hE.out.symm, hB4.out⟩
    have g3 := hid h3
    clear h3
    go_wp2_with fail
    clear p5
    go_loopw [2, 31] (fun z i wr => ∃ (j : Nat) (q : Exs), z = .bool false ∧ j + q.len = x.len ∧ i = .int .i64 j ∧ ExsIn w false none q xb xo j ∧ q.sz ≤ x.sz ∧ q.Wf ∧ okE x = okE q ∧ Below w.heap.size w wr) (fun _ i _ => x.len - (intOf i).toNat)
    case atStart => exact ⟨0, x, rfl, by omega, rfl, hXI.out, Nat.le_refl _, hXW.out.1, rfl, hB4.out⟩
    case round =>
     clear hXI hX4 hB4
     obtain ⟨j, q, rfl, hj, rfl, hq, hqz, hqw, hqok, hb⟩ := hrel
     have hB5 := hid hb
     have hQOK := hid hqok
     cases q with
     | nil =>
      simp only [Exs.len, Nat.add_zero] at hj
      subst j
      have hE := hid (hOK.out.trans (okS_5 g1.out g2.out g3.out hQOK.out))
      clear hq hqz hqw hqok hb
      go_wp2_with fail
      go_roundw
      case rel => exact ⟨k + 1, rest, rfl, by omega, by go_num, hRR.out.1, by have := hSz.out; omega, hRR.out.2, hE.out, hB5.out⟩
      case measure => simp [intOf]; omega
     | cons h' kids' rest' =>
      simp only [Exs.len, Exs.sz] at hj hqz
      obtain ⟨hw1, hw2, hw3⟩ := hqw
      obtain ⟨⟨⟨t', y0, _⟩, y1, y2, y3, y4, y5⟩, ⟨u, y6, hu⟩, hR'⟩ := hq.cons
      have x0 := cell_on y0 hb
      have x1 := cell_on y1 hb
      have x2 := cell_on y2 hb
      have x3 := cell_on y3 hb
      have x4 := cell_on y4 hb
      have x5 := cell_on y5 hb
      have x6 := cell_on y6 hb
      have hkj : j < x.len := by omega
      have hxa2 : xa = some ⟨xb, xo, none⟩ := by rcases hxa with q | q; (· omega); (· exact q)
      subst hxa2
      obtain ⟨ua, uc, rfl⟩ := hu.shape'
      have hal := hid ((Below.refl wr.heap.size wr).alloc (Nat.le_refl _) (.cells #[.int .i64 t', .int .u8 h'.kind, .int .u32 h'.word, .int .u8 h'.type, .string h'.name, .string h'.sign, .slice ua kids'.len uc] 134))
      have hCall := hid (fits45 _ t' h' kids' (.slice ua kids'.len uc) (wr.alloc (.cells #[.int .i64 t', .int .u8 h'.kind, .int .u32 h'.word, .int .u8 h'.type, .string h'.name, .string h'.sign, .slice ua kids'.len uc] 134)) (Nat.lt_succ_self _) (by have := hS.out; have := hSz.out; omega) hw1 hw2 (hu.mono (hb.trans (hal.out.mono hb.size))))
      have hRR' := hid (And.intro hR' (And.intro hqz hw3))
      clear hxa hq hu hR' hqz hb y0 y1 y2 y3 y4 y5 y6 hqok hw1 hw2 hw3
      go_wp2_with fail
      refine hCall.out.mono ?_
      rintro e w6 ⟨rfl, hb6⟩
      have hB6 := hid (hB5.out.trans ((hal.out.trans (hb6.mono (by simp))).mono hB5.out.size))
      clear hb6 hCall x0 x1 x2 x3 x4 x5 x6 hal
      cases hh : okE kids' && okH h' kids'.len
      ·have hE : Hid (okS l = false) := hid (hOK.out.trans (okS_4 (by rw [hQOK.out]; simp only [okE, hh]; rfl)))
       go_wp2_with fail
       go_ret
       exact ⟨ret_bool hE.out.symm, hB6.out⟩
      ·have hE : Hid (okE x = okE rest') := hid (by rw [hQOK.out]; simp only [okE, hh]; rfl)
       go_wp2_with fail
       go_roundw
       case rel => exact ⟨j + 1, rest', rfl, by omega, by go_num, hRR'.out.1, by have := hRR'.out.2.1; omega, hRR'.out.2.2, hE.out, hB6.out⟩
       case measure => simp [intOf]; omega
end
section
open Go.Shelf
end
end Go.Proofs.YtlabadkfkbenoaaGreatDoor
