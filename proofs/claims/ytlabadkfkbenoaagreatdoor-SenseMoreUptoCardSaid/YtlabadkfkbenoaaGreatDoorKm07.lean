/- Walks and plain laws, merged: ChkL ChkN ChkO. No condition. -/
import Derived.Test.YtlabadkfkbenoaaGreatDoorProg
import Derived.Outline
import Derived.Deep.RegionHeld3
import Derived.Test.YtlabadkfkbenoaaGreatDoorKm01
import Derived.Test.YtlabadkfkbenoaaGreatDoorKm06
namespace Go.Proofs.YtlabadkfkbenoaaGreatDoor
open Go.RowKit
set_option linter.unusedVariables false
set_option linter.unusedSimpArgs false
set_option maxRecDepth 100000
set_option maxHeartbeats 64000000
section
open Go.Shelf
def htE : Exs → Nat
 | .nil => 0
 | .cons _ k r => max (htE k + 1) (htE r)
def htS : Sts → Nat
 | .nil => 0
 | .cons _ x b e r => max (max (htE x) (max (htS b) (htS e)) + 1) (htS r)
theorem max_if (m H : Nat) : (if m < H then (H : Int) else (m : Int)) = ((max m H : Nat) : Int) := by split <;> omega
theorem htE_le : ∀ l : Exs, htE l ≤ l.sz
 | .nil => Nat.le_refl _
 | .cons h k r => by have := htE_le k; have := htE_le r; simp only [htE, Exs.sz]; omega
theorem htS_le : ∀ l : Sts, htS l ≤ l.sz
 | .nil => Nat.le_refl _
 | .cons h x b e r => by have := htE_le x; have := htS_le b; have := htS_le e; have := htS_le r; simp only [htS, Sts.sz]; omega
theorem height33 : ∀ (n : Nat) (t : Int) (h : EH) (kids : Exs) (v : Value) (w : World), kids.sz < n → kids.sz ≤ 100000000 → SlE w false none kids v →
  Calls Tryz.prog 138 #[aggE t h v] w fun e w' => e = .returned (.int .i64 ((htE kids + 1 : Nat) : Int)) ∧ Below w.heap.size w w' := by
 intro n
 induction n with
 | zero => intro t h kids v w hn; omega
 | succ n ih =>
  have IH := hid ih
  clear ih
  intro t h kids v w hn hs hv
  obtain ⟨ka, b, off, c, rfl, hka, hin⟩ := hv
  have hl := kids.len_le
  have hh := htE_le kids
  have hS := hid (And.intro hn hs)
  have hI := hid hin
  have hkb : kids.len ≤ 100000000 := by omega
  have hhb : htE kids ≤ 100000000 := by omega
  obtain ⟨a0, a1, a2, a3, a4, a5⟩ := h
  obtain ⟨len, hlen⟩ : ∃ m, m = kids.len := ⟨_, rfl⟩
  obtain ⟨H, hH⟩ : ∃ m, m = htE kids := ⟨_, rfl⟩
  rw [← hlen] at hka hl hkb ⊢
  rw [← hH] at hhb ⊢
  have hLen := hid hlen
  have hHt := hid hH
  clear hn hs hin hlen hH hh hl
  have hB0 := hid ((Below.refl w.heap.size w).alloc (Nat.le_refl _) (.cells #[.int .i64 t, .int .u8 a1, .int .u32 a2, .int .u8 a3, .string a4, .string a5, .slice ka len c] 134))
  go_enter Tryz.func138, Tryz.ntmps138
  go_wp2_with fail
  go_loopw [3, 9] (fun z i wr => ∃ (k m : Nat) (r : Exs), z = .int .i64 m ∧ k + r.len = len ∧ i = .int .i64 k ∧ ExsIn w false none r b off k ∧ r.sz ≤ kids.sz ∧ H = max m (htE r) ∧ Below w.heap.size w wr) (fun _ i _ => len - (intOf i).toNat)
  case atStart => exact ⟨0, 0, kids, rfl, by have := hLen.out; omega, rfl, hI.out, Nat.le_refl _, by rw [hHt.out]; simp, hB0.out⟩
  case round =>
   clear hI hB0
   obtain ⟨k, m, r, rfl, hk, rfl, hr, hz, hm, hb⟩ := hrel
   have hB := hid hb
   cases r with
   | nil =>
    simp only [Exs.len, Nat.add_zero] at hk
    subst k
    have hm2 : Hid (H = m) := hid (by rw [hm]; simp [htE])
    have hmb : m ≤ 100000000 := by have := hm2.out; omega
    clear hr hz hm hb
    go_wp2_with fail
    go_ret
    exact ⟨ret_int (by rw [hm2.out]; omega), hB.out⟩
   | cons h' kids' rest =>
    simp only [Exs.len, Exs.sz] at hk hz
    obtain ⟨⟨⟨t', y0, _⟩, y1, y2, y3, y4, y5⟩, ⟨u, y6, hu⟩, hR⟩ := hr.cons
    have x0 := cell_on y0 hb
    have x1 := cell_on y1 hb
    have x2 := cell_on y2 hb
    have x3 := cell_on y3 hb
    have x4 := cell_on y4 hb
    have x5 := cell_on y5 hb
    have x6 := cell_on y6 hb
    have hkk : k < len := by omega
    have hka2 : ka = some ⟨b, off, none⟩ := by rcases hka with q | q; (· omega); (· exact q.1)
    subst hka2
    obtain ⟨ua, uc, rfl⟩ := hu.shape'
    have hal := hid ((Below.refl wr.heap.size wr).alloc (Nat.le_refl _) (.cells #[.int .i64 t', .int .u8 h'.kind, .int .u32 h'.word, .int .u8 h'.type, .string h'.name, .string h'.sign, .slice ua kids'.len uc] 134))
    have hCall := hid (IH.out t' h' kids' (.slice ua kids'.len uc) (wr.alloc (.cells #[.int .i64 t', .int .u8 h'.kind, .int .u32 h'.word, .int .u8 h'.type, .string h'.name, .string h'.sign, .slice ua kids'.len uc] 134)) (by have := hS.out; omega) (by have := hS.out; omega) (hu.mono (hb.trans (hal.out.mono hb.size))))
    have hRR := hid (And.intro hR hz)
    have hM := hid hm
    clear hka hr hu hR hz hb y0 y1 y2 y3 y4 y5 y6 hm
    go_wp2_with fail
    refine hCall.out.mono ?_
    rintro e w2 ⟨rfl, hb2⟩
    have hB2 := hid (hB.out.trans ((hal.out.trans (hb2.mono (by simp))).mono hB.out.size))
    clear hb2 hCall x0 x1 x2 x3 x4 x5 x6 hal
    obtain ⟨H', hH'⟩ : ∃ q, q = htE kids' + 1 := ⟨_, rfl⟩
    rw [← hH']
    have hH2 := hid hH'
    clear hH'
    go_wp2_with fail
    go_roundw
    case rel => exact ⟨k + 1, max m H', rest, by rw [max_if], by omega, by go_num, hRR.out.1, by have := hRR.out.2; omega, by rw [hM.out, hH2.out]; simp only [htE]; omega, hB2.out⟩
    case measure => simp [intOf]; omega
theorem parts34 : ∀ (n : Nat) (t : Int) (h : EH) (kids : Exs) (v : Value) (w : World), kids.sz < n → kids.sz ≤ 100000000 → SlE w false none kids v →
  Calls Tryz.prog 139 #[aggE t h v] w fun e w' => e = .returned (.int .i64 ((kids.sz + 1 : Nat) : Int)) ∧ Below w.heap.size w w' := by
 intro n
 induction n with
 | zero => intro t h kids v w hn; omega
 | succ n ih =>
  have IH := hid ih
  clear ih
  intro t h kids v w hn hs hv
  obtain ⟨ka, b, off, c, rfl, hka, hin⟩ := hv
  have hl := kids.len_le
  have hS := hid (And.intro hn hs)
  have hI := hid hin
  have hkb : kids.len ≤ 100000000 := by omega
  have hhb : kids.sz ≤ 100000000 := by omega
  obtain ⟨a0, a1, a2, a3, a4, a5⟩ := h
  obtain ⟨len, hlen⟩ : ∃ m, m = kids.len := ⟨_, rfl⟩
  obtain ⟨H, hH⟩ : ∃ m, m = kids.sz := ⟨_, rfl⟩
  rw [← hlen] at hka hl hkb ⊢
  rw [← hH] at hhb ⊢
  have hLen := hid hlen
  have hHt := hid hH
  clear hn hs hin hlen hH hl
  have hB0 := hid ((Below.refl w.heap.size w).alloc (Nat.le_refl _) (.cells #[.int .i64 t, .int .u8 a1, .int .u32 a2, .int .u8 a3, .string a4, .string a5, .slice ka len c] 134))
  go_enter Tryz.func139, Tryz.ntmps139
  go_wp2_with fail
  go_loopw [3, 9] (fun z i wr => ∃ (k m : Nat) (r : Exs), z = .int .i64 m ∧ k + r.len = len ∧ i = .int .i64 k ∧ ExsIn w false none r b off k ∧ r.sz ≤ kids.sz ∧ H + 1 = m + r.sz ∧ Below w.heap.size w wr) (fun _ i _ => len - (intOf i).toNat)
  case atStart => exact ⟨0, 1, kids, rfl, by have := hLen.out; omega, rfl, hI.out, Nat.le_refl _, by rw [hHt.out]; omega, hB0.out⟩
  case round =>
   clear hI hB0
   obtain ⟨k, m, r, rfl, hk, rfl, hr, hz, hm, hb⟩ := hrel
   have hB := hid hb
   cases r with
   | nil =>
    simp only [Exs.len, Nat.add_zero] at hk
    subst k
    have hm2 : Hid (H + 1 = m) := hid (by rw [hm]; simp [Exs.sz])
    have hmb : m ≤ 100000001 := by have := hm2.out; omega
    clear hr hz hm hb
    go_wp2_with fail
    go_ret
    exact ⟨ret_int (by rw [hm2.out]), hB.out⟩
   | cons h' kids' rest =>
    simp only [Exs.len, Exs.sz] at hk hz
    obtain ⟨⟨⟨t', y0, _⟩, y1, y2, y3, y4, y5⟩, ⟨u, y6, hu⟩, hR⟩ := hr.cons
    have x0 := cell_on y0 hb
    have x1 := cell_on y1 hb
    have x2 := cell_on y2 hb
    have x3 := cell_on y3 hb
    have x4 := cell_on y4 hb
    have x5 := cell_on y5 hb
    have x6 := cell_on y6 hb
    have hkk : k < len := by omega
    have hka2 : ka = some ⟨b, off, none⟩ := by rcases hka with q | q; (· omega); (· exact q.1)
    subst hka2
    obtain ⟨ua, uc, rfl⟩ := hu.shape'
    have hal := hid ((Below.refl wr.heap.size wr).alloc (Nat.le_refl _) (.cells #[.int .i64 t', .int .u8 h'.kind, .int .u32 h'.word, .int .u8 h'.type, .string h'.name, .string h'.sign, .slice ua kids'.len uc] 134))
    have hCall := hid (IH.out t' h' kids' (.slice ua kids'.len uc) (wr.alloc (.cells #[.int .i64 t', .int .u8 h'.kind, .int .u32 h'.word, .int .u8 h'.type, .string h'.name, .string h'.sign, .slice ua kids'.len uc] 134)) (by have := hS.out; omega) (by have := hS.out; omega) (hu.mono (hb.trans (hal.out.mono hb.size))))
    have hRR := hid (And.intro hR hz)
    have hM := hid hm
    clear hka hr hu hR hz hb y0 y1 y2 y3 y4 y5 y6 hm
    go_wp2_with fail
    refine hCall.out.mono ?_
    rintro e w2 ⟨rfl, hb2⟩
    have hB2 := hid (hB.out.trans ((hal.out.trans (hb2.mono (by simp))).mono hB.out.size))
    clear hb2 hCall x0 x1 x2 x3 x4 x5 x6 hal
    obtain ⟨H', hH'⟩ : ∃ q, q = kids'.sz + 1 := ⟨_, rfl⟩
    rw [← hH']
    have hmb : m + H' ≤ 100000001 := by have := hM.out; simp only [Exs.sz] at this; omega
    have hH2 := hid hH'
    clear hH'
    go_wp2_with fail
    go_roundw
    case rel => exact ⟨k + 1, m + H', rest, by go_num, by omega, by go_num, hRR.out.1, by have := hRR.out.2; omega, by rw [hM.out, hH2.out]; simp only [Exs.sz]; omega, hB2.out⟩
    case measure => simp [intOf]; omega
open Go.Shelf
structure SB1 (w : World) (q : Nat) (box : Array Value) (t : TypeId) (w' : World) : Prop where
 box : Bx w' q box t
 below : Below w.heap.size w w'
theorem SB1.on {w w1 w2 : World} {q : Nat} {box : Array Value} {t : TypeId} (h : SB1 w q box t w1) (hb : Below w1.heap.size w1 w2) : SB1 w q box t w2 :=
 ⟨h.box.on (grown_of_below hb) (by simp), h.below.trans (hb.mono h.below.size)⟩
theorem SB1.drew {w w1 : World} {q : Nat} {box : Array Value} {t : TypeId} (h : SB1 w q box t w1) : SB1 w q box t w1.drew := h.on (Below.refl _ _).drew
theorem SB1.new {w w1 : World} (h : Below w.heap.size w w1) (box : Array Value) (t : TypeId) : SB1 w w1.heap.size box t (w1.alloc (.cells box t)) := ⟨Bx.new w1 box t, h.alloc h.size _⟩
structure SW1 (w : World) (w' : World) : Prop where
 below : Below w.heap.size w w'
theorem SW1.on {w w1 w2 : World} (h : SW1 w w1) (hb : Below w1.heap.size w1 w2) : SW1 w w2 := ⟨h.below.trans (hb.mono h.below.size)⟩
theorem SW1.drew {w w1 : World} (h : SW1 w w1) : SW1 w w1.drew := h.on (Below.refl _ _).drew
theorem deepest14 : ∀ (n : Nat) (l : Sts) (v : Value) (w : World), l.sz < n → l.sz ≤ 100000000 → SlS w false none l v →
  Calls Tryz.prog 106 #[v] w fun e w' => e = .returned (.int .i64 ((htS l : Nat) : Int)) ∧ Below w.heap.size w w' := by
 intro n
 induction n with
 | zero => intro l v w hn; omega
 | succ n ih =>
  have IH := hid ih
  clear ih
  intro l v w hn hs hv
  obtain ⟨ka, b, off, c, rfl, hka, hin⟩ := hv
  have hl := l.len_le
  have hh : htS l ≤ l.sz := htS_le l
  have hS := hid (And.intro hn hs)
  have hI := hid hin
  have hkb : l.len ≤ 100000000 := by omega
  have hhb : htS l ≤ 100000000 := by omega
  obtain ⟨len, hlen⟩ : ∃ m, m = l.len := ⟨_, rfl⟩
  obtain ⟨H, hH⟩ : ∃ m, m = htS l := ⟨_, rfl⟩
  rw [← hlen] at hka hl hkb ⊢
  rw [← hH] at hhb ⊢
  have hLen := hid hlen
  have hHt := hid hH
  clear hn hs hin hlen hH hh hl
  go_enter Tryz.func106, Tryz.ntmps106
  go_wp2_with fail
  go_loopw [3, 11] (fun z i wr => ∃ (k m : Nat) (r : Sts), z = .int .i64 m ∧ k + r.len = len ∧ i = .int .i64 k ∧ StsIn w false none r b off k ∧ r.sz ≤ l.sz ∧ H = max m (htS r) ∧ Below w.heap.size w wr) (fun _ i _ => len - (intOf i).toNat)
  case atStart => exact ⟨0, 0, l, rfl, by have := hLen.out; omega, rfl, hI.out, Nat.le_refl _, by rw [hHt.out]; simp, Below.refl _ _⟩
  case round =>
   clear hI
   obtain ⟨k, m, r, rfl, hk, rfl, hr, hz, hm, hb⟩ := hrel
   obtain ⟨wo, rfl⟩ : ∃ wo : World, wo = wr := ⟨_, rfl⟩
   have hB := hid hb
   have hM := hid hm
   cases r with
   | nil =>
    simp only [Sts.len, Nat.add_zero] at hk
    subst k
    have hm2 : Hid (H = m) := hid (by rw [hm]; simp [htS])
    have hmb : m ≤ 100000000 := by have := hm2.out; omega
    clear hr hz hm hb
    go_wp2_with fail
    go_ret
    exact ⟨ret_int (by rw [hm2.out]), hB.out⟩
   | cons h x body els rest =>
    simp only [Sts.len, Sts.sz] at hk hz
    obtain ⟨⟨⟨t, y0, _⟩, y1, y2, y3, y4⟩, ⟨vx, y5, hx⟩, ⟨vb, y6, hbd⟩, ⟨ve, y7, he⟩, hR⟩ := hr.cons
    have x0 := cell_on y0 hb
    have x1 := cell_on y1 hb
    have x2 := cell_on y2 hb
    have x3 := cell_on y3 hb
    have x4 := cell_on y4 hb
    have x5 := cell_on y5 hb
    have x6 := cell_on y6 hb
    have x7 := cell_on y7 hb
    have hkk : k < len := by omega
    have hka2 : ka = some ⟨b, off, none⟩ := by rcases hka with q | q; (· omega); (· exact q.1)
    subst hka2
    obtain ⟨xa, xc, rfl⟩ := hx.shape'
    obtain ⟨ba, bc, rfl⟩ := hbd.shape'
    obtain ⟨ea, ec, rfl⟩ := he.shape'
    obtain ⟨xb, xo, hxa, hxin⟩ : ∃ xb xo, (x.len = 0 ∨ xa = some ⟨xb, xo, none⟩) ∧ ExsIn w false none x xb xo 0 := by
     obtain ⟨ka', kb, koff, kcap, hv, y2, y3⟩ := hx
     cases hv
     exact ⟨kb, koff, y2.imp And.left And.left, y3⟩
    have hxl := x.len_le
    have hxlen : x.len ≤ 100000000 := by have := hS.out; omega
    obtain ⟨a0, a1, a2, a3, a4⟩ := h
    have hXI := hid hxin
    have hSz := hid hz
    have hRR := hid hR
    have hXv := hid hx
    have hcb := hid (fun (w2 : World) (h2 : Below w.heap.size w w2) => IH.out body (.slice ba body.len bc) w2 (by have := hS.out; have := hSz.out; omega) (by have := hS.out; have := hSz.out; omega) (hbd.mono h2))
    have hce := hid (fun (w2 : World) (h2 : Below w.heap.size w w2) => IH.out els (.slice ea els.len ec) w2 (by have := hS.out; have := hSz.out; omega) (by have := hS.out; have := hSz.out; omega) (he.mono h2))
    have hbb : htS body ≤ body.sz := htS_le body
    have heb : htS els ≤ els.sz := htS_le els
    have hbb2 : htS body ≤ 100000000 := by have := hS.out; omega
    have heb2 : htS els ≤ 100000000 := by have := hS.out; omega
    obtain ⟨Hb, hHb⟩ : ∃ m, m = htS body := ⟨_, rfl⟩
    obtain ⟨He, hHe⟩ : ∃ m, m = htS els := ⟨_, rfl⟩
    rw [← hHb] at hbb hbb2
    rw [← hHe] at heb heb2
    have hHB := hid hHb
    have hHE := hid hHe
    rw [← hHb] at hcb
    rw [← hHe] at hce
    have hS1 := hid (SB1.new hb #[.int .i64 t, .int .u8 a1, .string a2, .int .u8 a3, .string a4, .slice xa x.len xc, .slice ba body.len bc, .slice ea els.len ec] 109)
    have hxb : htE x ≤ x.sz := htE_le x
    have hxb2 : htE x ≤ 100000000 := by have := hS.out; omega
    clear hka hr hx hbd he hR hb y0 y1 y2 y3 y4 y5 y6 y7 hxin hxl hm hHb hHe hz
    go_wp2_with fail
    clear x0 x1 x2 x3 x4 x5 x6 x7
    refine wp_region_held_drew (S := (SB1 w wo.heap.size #[.int .i64 t, .int .u8 a1, .string a2, .int .u8 a3, .string a4, .slice xa x.len xc, .slice ba body.len bc, .slice ea els.len ec] 109)) (by kernel_rfl) hS1.out.drew (fun hHeld => ?_)
    clear hS1
    refine tk 0 ?_
    refine tk 1 ?_ (hy := by intro w' hSw; have c5 := hSw.box.cell 5; have c6 := hSw.box.cell 6; have c7 := hSw.box.cell 7; simp at c5 c6 c7; go_simp; (try with_reducible rfl))
    refine tk 3 ?_
    refine tk 4 ?_ (hy := by intro w' hSw; have c5 := hSw.box.cell 5; have c6 := hSw.box.cell 6; have c7 := hSw.box.cell 7; simp at c5 c6 c7; go_simp; (try with_reducible rfl))
    refine tr 2 fun K hK => ?_
    go_simp
    go_at_call 106
    refine (hcb.out _ hHeld.below).mono ?_
    rintro e w2 ⟨rfl, hb2⟩
    have hk := hHeld.on hb2
    clear hHeld hb2
    go_wp2_with fail
    refine hK.out _ _ hk (fun hHeld => ?_)
    clear hK K hk
    try simp only [tpa, tpb, tpc, tpd, tpe]
    refine tr 5 fun K hK => ?_
    go_simp
    go_at_call 106
    refine (hce.out _ hHeld.below).mono ?_
    rintro e w2 ⟨rfl, hb2⟩
    have hk := hHeld.on hb2
    clear hHeld hb2
    go_wp2_with fail
    refine hK.out _ _ hk (fun hHeld => ?_)
    clear hK K hk
    try simp only [tpa, tpb, tpc, tpd, tpe]
    refine tk 6 ?_
    refine tk 7 ?_
    refine td ?_
    have hX := hid hHeld
    simp only [max_if]
    have p5 := hHeld.box.cell 5
    simp at p5
    clear hHeld
    go_wp2_with fail
    clear p5
    go_loopw [6, 25] (fun z i wr => ∃ (j m2 : Nat) (q : Exs), z = .int .i64 m2 ∧ j + q.len = x.len ∧ i = .int .i64 j ∧ ExsIn w false none q xb xo j ∧ q.sz ≤ x.sz ∧ max (htE x) (max Hb He) = max m2 (htE q) ∧ Below w.heap.size w wr) (fun _ i _ => x.len - (intOf i).toNat)
    case atStart => exact ⟨0, max Hb He, x, by simp only [max_if], by omega, rfl, hXI.out, Nat.le_refl _, by omega, hX.out.below⟩
    case round =>
     clear hXI hX
     obtain ⟨j, m2, q, rfl, hj, rfl, hq, hqz, hqm, hb⟩ := hrel
     have hB5 := hid hb
     have hQM := hid hqm
     cases q with
     | nil =>
      simp only [Exs.len, Nat.add_zero] at hj
      subst j
      have hm2b : m2 ≤ 100000000 := by have := hQM.out; simp only [htE] at this; omega
      clear hq hqz hqm hb
      go_wp2_with fail
      go_roundw
      case rel => exact ⟨k + 1, max m (m2 + 1), rest, by (first | (rw [← max_if]; congr 1; done) | (congr 1; split <;> omega)), by omega, by go_num, hRR.out, by have := hSz.out; omega, by rw [hM.out]; have h1 := hQM.out; rw [hHB.out, hHE.out] at h1; simp only [htS, htE] at h1 ⊢; omega, hB5.out⟩
      case measure => simp [intOf]; omega
     | cons h' kids' rest' =>
      simp only [Exs.len, Exs.sz] at hj hqz
      obtain ⟨⟨⟨t', y0, _⟩, y1, y2, y3, y4, y5⟩, ⟨u, y6, hu⟩, hR'⟩ := hq.cons
      have x0 := cell_on y0 hb
      have x1 := cell_on y1 hb
      have x2 := cell_on y2 hb
      have x3 := cell_on y3 hb
      have x4 := cell_on y4 hb
      have x5 := cell_on y5 hb
      have x6 := cell_on y6 hb
      have hkj : j < x.len := by omega
      have hxa2 : xa = some ⟨xb, xo, none⟩ := by rcases hxa with q | q; (· omega); (· exact q)
      subst hxa2
      obtain ⟨ua, uc, rfl⟩ := hu.shape'
      have hal := hid ((Below.refl wr.heap.size wr).alloc (Nat.le_refl _) (.cells #[.int .i64 t', .int .u8 h'.kind, .int .u32 h'.word, .int .u8 h'.type, .string h'.name, .string h'.sign, .slice ua kids'.len uc] 134))
      have hCall := hid (height33 _ t' h' kids' (.slice ua kids'.len uc) (wr.alloc (.cells #[.int .i64 t', .int .u8 h'.kind, .int .u32 h'.word, .int .u8 h'.type, .string h'.name, .string h'.sign, .slice ua kids'.len uc] 134)) (Nat.lt_succ_self _) (by have := hS.out; have := hSz.out; omega) (hu.mono (hb.trans (hal.out.mono hb.size))))
      have hRR' := hid (And.intro hR' hqz)
      have hkb3 : htE kids' ≤ kids'.sz := htE_le kids'
      clear hxa hq hu hR' hb y0 y1 y2 y3 y4 y5 y6 hqm
      go_wp2_with fail
      refine hCall.out.mono ?_
      rintro e w6 ⟨rfl, hb6⟩
      have hB6 := hid (hB5.out.trans ((hal.out.trans (hb6.mono (by simp))).mono hB5.out.size))
      clear hb6 hCall x0 x1 x2 x3 x4 x5 x6 hal
      obtain ⟨H', hH'⟩ : ∃ q, q = htE kids' + 1 := ⟨_, rfl⟩
      rw [← hH']
      have hH2 := hid hH'
      clear hH' hkb3 hqz
      go_wp2_with fail
      go_roundw
      case rel => exact ⟨j + 1, max m2 H', rest', by rw [max_if], by omega, by go_num, hRR'.out.1, by have := hRR'.out.2; omega, by rw [hQM.out, hH2.out]; simp only [htE]; omega, hB6.out⟩
      case measure => simp [intOf]; omega
theorem many15 : ∀ (n : Nat) (l : Sts) (v : Value) (w : World), l.sz < n → l.sz ≤ 100000000 → SlS w false none l v →
  Calls Tryz.prog 107 #[v] w fun e w' => e = .returned (.int .i64 ((Sts.sz l : Nat) : Int)) ∧ Below w.heap.size w w' := by
 intro n
 induction n with
 | zero => intro l v w hn; omega
 | succ n ih =>
  have IH := hid ih
  clear ih
  intro l v w hn hs hv
  obtain ⟨ka, b, off, c, rfl, hka, hin⟩ := hv
  have hl := l.len_le
  have hh : Sts.sz l ≤ l.sz := Nat.le_refl _
  have hS := hid (And.intro hn hs)
  have hI := hid hin
  have hkb : l.len ≤ 100000000 := by omega
  have hhb : Sts.sz l ≤ 100000000 := by omega
  obtain ⟨len, hlen⟩ : ∃ m, m = l.len := ⟨_, rfl⟩
  obtain ⟨H, hH⟩ : ∃ m, m = Sts.sz l := ⟨_, rfl⟩
  rw [← hlen] at hka hl hkb ⊢
  rw [← hH] at hhb ⊢
  have hLen := hid hlen
  have hHt := hid hH
  clear hn hs hin hlen hH hh hl
  go_enter Tryz.func107, Tryz.ntmps107
  go_wp2_with fail
  go_loopw [3, 10] (fun z i wr => ∃ (k m : Nat) (r : Sts), z = .int .i64 m ∧ k + r.len = len ∧ i = .int .i64 k ∧ StsIn w false none r b off k ∧ r.sz ≤ l.sz ∧ H = m + r.sz ∧ Below w.heap.size w wr) (fun _ i _ => len - (intOf i).toNat)
  case atStart => exact ⟨0, 0, l, rfl, by have := hLen.out; omega, rfl, hI.out, Nat.le_refl _, by rw [hHt.out]; simp, Below.refl _ _⟩
  case round =>
   clear hI
   obtain ⟨k, m, r, rfl, hk, rfl, hr, hz, hm, hb⟩ := hrel
   obtain ⟨wo, rfl⟩ : ∃ wo : World, wo = wr := ⟨_, rfl⟩
   have hB := hid hb
   have hM := hid hm
   cases r with
   | nil =>
    simp only [Sts.len, Nat.add_zero] at hk
    subst k
    have hm2 : Hid (H = m) := hid (by rw [hm]; simp [Sts.sz])
    have hmb : m ≤ 100000000 := by have := hm2.out; omega
    clear hr hz hm hb
    go_wp2_with fail
    go_ret
    exact ⟨ret_int (by rw [hm2.out]), hB.out⟩
   | cons h x body els rest =>
    simp only [Sts.len, Sts.sz] at hk hz
    obtain ⟨⟨⟨t, y0, _⟩, y1, y2, y3, y4⟩, ⟨vx, y5, hx⟩, ⟨vb, y6, hbd⟩, ⟨ve, y7, he⟩, hR⟩ := hr.cons
    have x0 := cell_on y0 hb
    have x1 := cell_on y1 hb
    have x2 := cell_on y2 hb
    have x3 := cell_on y3 hb
    have x4 := cell_on y4 hb
    have x5 := cell_on y5 hb
    have x6 := cell_on y6 hb
    have x7 := cell_on y7 hb
    have hkk : k < len := by omega
    have hka2 : ka = some ⟨b, off, none⟩ := by rcases hka with q | q; (· omega); (· exact q.1)
    subst hka2
    obtain ⟨xa, xc, rfl⟩ := hx.shape'
    obtain ⟨ba, bc, rfl⟩ := hbd.shape'
    obtain ⟨ea, ec, rfl⟩ := he.shape'
    obtain ⟨xb, xo, hxa, hxin⟩ : ∃ xb xo, (x.len = 0 ∨ xa = some ⟨xb, xo, none⟩) ∧ ExsIn w false none x xb xo 0 := by
     obtain ⟨ka', kb, koff, kcap, hv, y2, y3⟩ := hx
     cases hv
     exact ⟨kb, koff, y2.imp And.left And.left, y3⟩
    have hxl := x.len_le
    have hxlen : x.len ≤ 100000000 := by have := hS.out; omega
    obtain ⟨a0, a1, a2, a3, a4⟩ := h
    have hXI := hid hxin
    have hSz := hid hz
    have hRR := hid hR
    have hXv := hid hx
    have hcb := hid (fun (w2 : World) (h2 : Below w.heap.size w w2) => IH.out body (.slice ba body.len bc) w2 (by have := hS.out; have := hSz.out; omega) (by have := hS.out; have := hSz.out; omega) (hbd.mono h2))
    have hce := hid (fun (w2 : World) (h2 : Below w.heap.size w w2) => IH.out els (.slice ea els.len ec) w2 (by have := hS.out; have := hSz.out; omega) (by have := hS.out; have := hSz.out; omega) (he.mono h2))
    have hbb : Sts.sz body ≤ body.sz := Nat.le_refl _
    have heb : Sts.sz els ≤ els.sz := Nat.le_refl _
    have hbb2 : Sts.sz body ≤ 100000000 := by have := hS.out; omega
    have heb2 : Sts.sz els ≤ 100000000 := by have := hS.out; omega
    obtain ⟨Hb, hHb⟩ : ∃ m, m = Sts.sz body := ⟨_, rfl⟩
    obtain ⟨He, hHe⟩ : ∃ m, m = Sts.sz els := ⟨_, rfl⟩
    rw [← hHb] at hbb hbb2
    rw [← hHe] at heb heb2
    have hHB := hid hHb
    have hHE := hid hHe
    rw [← hHb] at hcb
    rw [← hHe] at hce
    have hS1 := hid (SB1.new hb #[.int .i64 t, .int .u8 a1, .string a2, .int .u8 a3, .string a4, .slice xa x.len xc, .slice ba body.len bc, .slice ea els.len ec] 109)
    have hmb : m + (x.sz + Hb + He + 1) ≤ 100000000 := by simp only [Sts.sz] at hm; omega
    clear hka hr hx hbd he hR hb y0 y1 y2 y3 y4 y5 y6 y7 hxin hxl hm hHb hHe hz hbb heb hbb2 heb2
    go_wp2_with fail
    clear x0 x1 x2 x3 x4 x5 x6 x7
    refine wp_region_held_drew (S := (SB1 w wo.heap.size #[.int .i64 t, .int .u8 a1, .string a2, .int .u8 a3, .string a4, .slice xa x.len xc, .slice ba body.len bc, .slice ea els.len ec] 109)) (by kernel_rfl) hS1.out.drew (fun hHeld => ?_)
    clear hS1
    refine tk 0 ?_
    refine tk 1 ?_
    refine tk 2 ?_ (hy := by intro w' hSw; have c5 := hSw.box.cell 5; have c6 := hSw.box.cell 6; have c7 := hSw.box.cell 7; simp at c5 c6 c7; go_simp; (try with_reducible rfl))
    refine tk 5 ?_
    refine tk 6 ?_ (hy := by intro w' hSw; have c5 := hSw.box.cell 5; have c6 := hSw.box.cell 6; have c7 := hSw.box.cell 7; simp at c5 c6 c7; go_simp; (try with_reducible rfl))
    refine tr 3 fun K hK => ?_
    go_simp
    go_at_call 107
    refine (hcb.out _ hHeld.below).mono ?_
    rintro e w2 ⟨rfl, hb2⟩
    have hk := hHeld.on hb2
    clear hHeld hb2
    go_wp2_with fail
    refine hK.out _ _ hk (fun hHeld => ?_)
    clear hK K hk
    try simp only [tpa, tpb, tpc, tpd, tpe]
    refine tk 4 ?_
    refine tr 7 fun K hK => ?_
    go_simp
    go_at_call 107
    refine (hce.out _ hHeld.below).mono ?_
    rintro e w2 ⟨rfl, hb2⟩
    have hk := hHeld.on hb2
    clear hHeld hb2
    go_wp2_with fail
    refine hK.out _ _ hk (fun hHeld => ?_)
    clear hK K hk
    try simp only [tpa, tpb, tpc, tpd, tpe]
    refine tk 8 ?_
    refine tk 9 ?_
    refine tk 10 ?_
    refine td ?_
    have hX := hid hHeld
    rw [show IntKind.i64.wrap (1 + (Hb : Int)) = 1 + (Hb : Int) from IntWalk.i64_in _ (by omega), show IntKind.i64.wrap (1 + (Hb : Int) + (He : Int)) = 1 + (Hb : Int) + (He : Int) from IntWalk.i64_in _ (by omega), show IntKind.i64.wrap ((m : Int) + (1 + (Hb : Int) + (He : Int))) = (m : Int) + (1 + (Hb : Int) + (He : Int)) from IntWalk.i64_in _ (by omega)]
    have p5 := hHeld.box.cell 5
    simp at p5
    clear hHeld
    go_wp2_with fail
    clear p5
    go_loopw [3, 27] (fun z i wr => ∃ (j m2 : Nat) (q : Exs), z = .int .i64 m2 ∧ j + q.len = x.len ∧ i = .int .i64 j ∧ ExsIn w false none q xb xo j ∧ q.sz ≤ x.sz ∧ m + (x.sz + Hb + He + 1) = m2 + q.sz ∧ Below w.heap.size w wr) (fun _ i _ => x.len - (intOf i).toNat)
    case atStart => exact ⟨0, m + (1 + Hb + He), x, by first | go_num | (congr 1; omega), by omega, rfl, hXI.out, Nat.le_refl _, by omega, hX.out.below⟩
    case round =>
     clear hXI hX
     obtain ⟨j, m2, q, rfl, hj, rfl, hq, hqz, hqm, hb⟩ := hrel
     have hB5 := hid hb
     have hQM := hid hqm
     cases q with
     | nil =>
      simp only [Exs.len, Nat.add_zero] at hj
      subst j
      clear hq hqz hqm hb
      go_wp2_with fail
      go_roundw
      case rel => exact ⟨k + 1, m2, rest, rfl, by omega, by go_num, hRR.out, by have := hSz.out; omega, by rw [hM.out]; have h1 := hQM.out; rw [hHB.out, hHE.out] at h1; simp only [Sts.sz, Exs.sz] at h1 ⊢; omega, hB5.out⟩
      case measure => simp [intOf]; omega
     | cons h' kids' rest' =>
      simp only [Exs.len, Exs.sz] at hj hqz
      obtain ⟨⟨⟨t', y0, _⟩, y1, y2, y3, y4, y5⟩, ⟨u, y6, hu⟩, hR'⟩ := hq.cons
      have x0 := cell_on y0 hb
      have x1 := cell_on y1 hb
      have x2 := cell_on y2 hb
      have x3 := cell_on y3 hb
      have x4 := cell_on y4 hb
      have x5 := cell_on y5 hb
      have x6 := cell_on y6 hb
      have hkj : j < x.len := by omega
      have hxa2 : xa = some ⟨xb, xo, none⟩ := by rcases hxa with q | q; (· omega); (· exact q)
      subst hxa2
      obtain ⟨ua, uc, rfl⟩ := hu.shape'
      have hal := hid ((Below.refl wr.heap.size wr).alloc (Nat.le_refl _) (.cells #[.int .i64 t', .int .u8 h'.kind, .int .u32 h'.word, .int .u8 h'.type, .string h'.name, .string h'.sign, .slice ua kids'.len uc] 134))
      have hCall := hid (parts34 _ t' h' kids' (.slice ua kids'.len uc) (wr.alloc (.cells #[.int .i64 t', .int .u8 h'.kind, .int .u32 h'.word, .int .u8 h'.type, .string h'.name, .string h'.sign, .slice ua kids'.len uc] 134)) (Nat.lt_succ_self _) (by have := hS.out; have := hSz.out; omega) (hu.mono (hb.trans (hal.out.mono hb.size))))
      have hRR' := hid (And.intro hR' hqz)
      clear hxa hq hu hR' hb y0 y1 y2 y3 y4 y5 y6 hqm
      go_wp2_with fail
      refine hCall.out.mono ?_
      rintro e w6 ⟨rfl, hb6⟩
      have hB6 := hid (hB5.out.trans ((hal.out.trans (hb6.mono (by simp))).mono hB5.out.size))
      clear hb6 hCall x0 x1 x2 x3 x4 x5 x6 hal
      obtain ⟨H', hH'⟩ : ∃ q, q = kids'.sz + 1 := ⟨_, rfl⟩
      rw [← hH']
      have hm3 : m2 + H' ≤ 100000000 := by have := hQM.out; simp only [Exs.sz] at this; omega
      have hH2 := hid hH'
      clear hH' hqz
      go_wp2_with fail
      go_roundw
      case rel => exact ⟨j + 1, m2 + H', rest', by go_num, by omega, by go_num, hRR'.out.1, by have := hRR'.out.2; omega, by rw [hQM.out, hH2.out]; simp only [Exs.sz]; omega, hB6.out⟩
      case measure => simp [intOf]; omega
open Go.Shelf
end
section
open Go.Shelf
def okPar (a : PW) : Bool := nameOk a.1 && typeB a.2
def okP (l : List PW) : Bool := l.all okPar && decide (l.length ≤ 15)
theorem all_at {α : Type} (f : α → Bool) (l : List α) (k : Nat) (h : k < l.length) : (l.drop k).all f = (f l[k] && (l.drop (k + 1)).all f) := by
 rw [List.drop_eq_getElem_cons h]
 rfl
theorem all_end {α : Type} (f : α → Bool) (l : List α) : (l.drop l.length).all f = true := by
 rw [List.drop_eq_nil_of_le (Nat.le_refl _)]
 rfl
theorem SlPz.shape' {w : World} {o : Option (Nat → Prop)} {l : List PW} {v : Value} (h : SlPz w o l v) : ∃ a c, v = .slice a l.length c := h.shape
theorem SlR.open {α : Type} {w : World} {o : Option (Nat → Prop)} {t : TypeId} {n : Nat} {R : α → Nat → Nat → Prop} {l : List α} {v : Value} (h : SlR w o t n R l v) :
  ∃ ka kb koff kcap, v = .slice ka l.length kcap ∧ (l.length = 0 ∨ ka = some ⟨kb, koff, none⟩) ∧ ∀ i (h : i < l.length), R l[i] kb (koff + i * n) := by
 obtain ⟨ka, kb, koff, kcap, rfl, y2, y3⟩ := h
 exact ⟨ka, kb, koff, kcap, rfl, y2.imp And.left And.left, y3⟩
theorem params31 (l : List PW) (v : Value) (w : World) (hs : l.length ≤ 100000000) (hwf : ∀ a ∈ l, a.1.size ≤ 1048576) (hv : SlPz w none l v) :
  Calls Tryz.prog 136 #[v] w fun e w' => e = .returned (.bool (okP l)) ∧ Below w.heap.size w w' := by
 obtain ⟨ka, b, off, c, rfl, hka, hin⟩ := SlR.open hv
 have hI := hid hin
 have hW := hid hwf
 obtain ⟨len, hlen⟩ : ∃ m, m = l.length := ⟨_, rfl⟩
 rw [← hlen] at hka hs ⊢
 have hLen := hid hlen
 clear hin hwf hv hlen
 go_enter Tryz.func136, Tryz.ntmps136
 go_wp2_with fail
 go_loopw [2, 7] (fun z i wr => ∃ k : Nat, z = .bool false ∧ k ≤ len ∧ i = .int .i64 k ∧ l.all okPar = (l.drop k).all okPar ∧ Below w.heap.size w wr) (fun _ i _ => len - (intOf i).toNat)
 case atStart => exact ⟨0, rfl, Nat.zero_le _, rfl, rfl, Below.refl _ _⟩
 case round =>
  obtain ⟨k, rfl, hk, rfl, hal, hb⟩ := hrel
  have hA := hid hal
  have hB := hid hb
  by_cases hlt : k < len
  ·have hlt' : k < l.length := by have := hLen.out; omega
   obtain ⟨y0, y1⟩ := hI.out k hlt'
   have hat := hid (all_at okPar l k hlt')
   have hw1 := hW.out _ (List.getElem_mem hlt')
   have x0 := cell_on y0 hb
   have x1 := cell_on y1 hb
   have hka2 : ka = some ⟨b, off, none⟩ := by rcases hka with q | q; (· omega); (· exact q)
   subst hka2
   generalize l[k]'hlt' = a at *
   obtain ⟨nm, ty⟩ := a
   simp only [] at x0 x1 hw1
   have hX := hid (SB1.new hb #[.string nm, .int .u8 ty] 46)
   have hc := hid (isName29 nm (wr.alloc (.cells #[.string nm, .int .u8 ty] 46)) hw1)
   clear hka hal hb y0 y1 hw1
   go_wp2_with fail
   refine hc.out.mono ?_
   rintro e w2 ⟨rfl, hb2⟩
   have hX2 := hid (hX.out.on hb2)
   have p1 := hX2.out.box.cell 1
   have pl := hX2.out.box.lt
   simp at p1
   clear hb2 hc hX x0 x1
   cases h1 : nameOk nm
   ·have hE : Hid (l.all okPar = false) := hid (by rw [hA.out, hat.out]; simp only [okPar, h1]; rfl)
    go_wp2_with fail
    go_ret
    exact ⟨ret_bool (by unfold okP; rw [hE.out]; rfl), hX2.out.below⟩
   have hc := hid (isType30 ty w2)
   go_wp2_with fail
   refine hc.out.mono ?_
   rintro e w3 ⟨rfl, hw⟩
   subst w3
   clear p1 pl hc
   cases h2 : typeB ty
   ·have hE : Hid (l.all okPar = false) := hid (by rw [hA.out, hat.out]; simp only [okPar, h1, h2]; rfl)
    go_wp2_with fail
    go_ret
    exact ⟨ret_bool (by unfold okP; rw [hE.out]; rfl), hX2.out.below⟩
   ·have hE : Hid (l.all okPar = (l.drop (k + 1)).all okPar) := hid (by rw [hA.out, hat.out]; simp only [okPar, h1, h2]; rfl)
    go_wp2_with fail
    go_roundw
    case rel => exact ⟨k + 1, rfl, by omega, by go_num, hE.out, hX2.out.below⟩
    case measure => simp [intOf]; omega
  ·obtain rfl : k = len := by omega
   have hE : Hid (l.all okPar = true) := hid (by rw [hA.out]; have := hLen.out; rw [this]; exact all_end _ _)
   clear hal hb hka
   go_wp2_with fail
   go_ret
   exact ⟨ret_bool (by unfold okP; rw [hE.out, ← hLen.out]; simp; try omega), hB.out⟩
def okG (name : ByteArray) (type len word : Int) : Bool := nameOk name && (typeB type && (!decide (4096 < len) && (!(decide (0 < len) && word != 0) && (type == 1 || finB word))))
theorem global28 (t : Int) (nm : ByteArray) (ty ln wd : Int) (w : World) (hs : nm.size ≤ 1048576) (hw : 0 ≤ wd ∧ wd < 4294967296) :
  Calls Tryz.prog 133 #[.agg #[.int .i64 t, .string nm, .int .u8 ty, .int .u32 ln, .int .u32 wd]] w fun e w' => e = .returned (.bool (okG nm ty ln wd)) ∧ Below w.heap.size w w' := by
 have hX := hid (SB1.new (Below.refl w.heap.size w) #[.int .i64 t, .string nm, .int .u8 ty, .int .u32 ln, .int .u32 wd] 105)
 have hc := hid (isName29 nm (w.alloc (.cells #[.int .i64 t, .string nm, .int .u8 ty, .int .u32 ln, .int .u32 wd] 105)) hs)
 have hW := hid hw
 clear hs hw
 go_enter Tryz.func133, Tryz.ntmps133
 go_wp2_with fail
 refine hc.out.mono ?_
 rintro e w2 ⟨rfl, hb2⟩
 have hX2 := hid (hX.out.on hb2)
 have p2 := hX2.out.box.cell 2
 have p3 := hX2.out.box.cell 3
 have p4 := hX2.out.box.cell 4
 simp at p2 p3 p4
 clear hb2 hc hX
 cases h1 : nameOk nm
 ·go_wp2_with fail
  go_ret
  exact ⟨ret_bool (by simp only [okG, h1, Bool.false_and]), hX2.out.below⟩
 have hc := hid (isType30 ty w2)
 go_wp2_with fail
 refine hc.out.mono ?_
 rintro e w3 ⟨rfl, hw⟩
 subst w3
 cases h2 : typeB ty
 ·go_wp2_with fail
  go_ret
  exact ⟨ret_bool (by simp only [okG, h1, h2, Bool.false_and, Bool.true_and]), hX2.out.below⟩
 by_cases h3 : 4096 < ln
 ·have q3 : decide (4096 < ln) = true := by simpa using h3
  go_wp2_with fail
  go_ret
  exact ⟨ret_bool (by simp only [okG, h1, h2, q3]; rfl), hX2.out.below⟩
 have q3 : decide (4096 < ln) = false := by simpa using h3
 by_cases h4 : 0 < ln ∧ wd ≠ 0
 ·have q4 : decide (0 < ln) = true := by simpa using h4.1
  have q5 : (wd != 0) = true := by simpa using h4.2
  have h5 := h4.1
  clear h4
  go_wp2_with fail
  go_ret
  exact ⟨ret_bool (by simp only [okG, h1, h2, q3, q4, q5]; rfl), hX2.out.below⟩
 have q4 : (decide (0 < ln) && wd != 0) = false := by
  cases hq : (decide (0 < ln) && wd != 0)
  ·rfl
  ·simp at hq; exact absurd hq h4
 have hfin : Hid (okG nm ty ln wd = (ty == 1 || finB wd)) := hid (by simp only [okG, h1, h2, q3, q4]; rfl)
 have Q4 := hid q4
 clear q4
 have hcf := hid (finite41 wd hW.out w2)
 clear hc h1 h2
 by_cases h5 : 0 < ln
 ·have h6 : wd = 0 := by
   by_cases q : wd = 0
   ·exact q
   ·exact absurd ⟨h5, q⟩ h4
  have h7 := h5
  subst h6
  clear h4
  cases ht : ty == 1
  ·go_wp2_with fail
   refine hcf.out.mono ?_
   rintro e w3 ⟨rfl, hw⟩
   subst w3
   go_wp2_with fail
   go_ret
   exact ⟨ret_bool (by rw [hfin.out, ht]; rfl), hX2.out.below⟩
  ·go_wp2_with fail
   go_ret
   exact ⟨ret_bool (by rw [hfin.out, ht]; rfl), hX2.out.below⟩
 ·clear h4
  cases ht : ty == 1
  ·go_wp2_with fail
   refine hcf.out.mono ?_
   rintro e w3 ⟨rfl, hw⟩
   subst w3
   go_wp2_with fail
   go_ret
   exact ⟨ret_bool (by rw [hfin.out, ht]; rfl), hX2.out.below⟩
  ·go_wp2_with fail
   go_ret
   exact ⟨ret_bool (by rw [hfin.out, ht]; rfl), hX2.out.below⟩
open Go.Shelf
structure UT.Wf (u : UT) : Prop where
 g : ∀ x ∈ u.gs, x.name.size ≤ 1048576 ∧ 0 ≤ x.word ∧ x.word < 4294967296
 h : ∀ x ∈ u.hs, x.name.size ≤ 1048576 ∧ ∀ a ∈ x.params, a.1.size ≤ 1048576
 f : ∀ x ∈ u.fs, x.name.size ≤ 1048576 ∧ (∀ a ∈ x.params, a.1.size ≤ 1048576) ∧ x.body.Wf
def okGH (g : GH) : Bool := okG g.name g.type g.len g.word
def okHo (h : HH) : Bool := nameOk h.name && (typeB h.type && (okP h.params && !decide (2147483647 < h.number)))
def okFu (f : FH) : Bool := nameOk f.name && (typeB f.type && (okP f.params && okS f.body))
def fitsU (u : UT) : Bool := u.gs.all okGH && (u.hs.all okHo && u.fs.all okFu)
theorem fitsU_g {u : UT} (h : u.gs.all okGH = false) : fitsU u = false := by unfold fitsU; rw [h]; rfl
theorem fitsU_h {u : UT} (h : u.hs.all okHo = false) : fitsU u = false := by unfold fitsU; rw [h]; simp
theorem fitsU_f {u : UT} (h : u.fs.all okFu = false) : fitsU u = false := by unfold fitsU; rw [h]; simp
theorem fitsU_y {u : UT} (h1 : u.gs.all okGH = true) (h2 : u.hs.all okHo = true) (h3 : u.fs.all okFu = true) : fitsU u = true := by unfold fitsU; rw [h1, h2, h3]; rfl
theorem fits13 (u : UT) (v : Value) (w : World) (ok : u.Ok) (wf : u.Wf) (hv : UIn w false none u v) :
  Calls Tryz.prog 105 #[v] w fun e w' => e = .returned (.bool (fitsU u)) ∧ Below w.heap.size w w' := by
 obtain ⟨vg, vh, vf, rfl, hg, hh, hf⟩ := hv
 obtain ⟨ga, gb, go, gc, rfl, hga, hgi⟩ := SlR.open hg
 obtain ⟨ha, hbk, ho, hc, rfl, hha, hhi⟩ := SlR.open hh
 obtain ⟨fa, fb, fo, fc, rfl, hfa, hfi⟩ := SlR.open hf
 have hG := hid hgi
 have hH := hid hhi
 have hF := hid hfi
 have OK := hid ok
 have WF := hid wf
 have g1 := ok.g
 have g2 := ok.h
 have g3 := ok.f
 obtain ⟨mg, hmg⟩ : ∃ m, m = u.gs.length := ⟨_, rfl⟩
 obtain ⟨mh, hmh⟩ : ∃ m, m = u.hs.length := ⟨_, rfl⟩
 obtain ⟨mf, hmf⟩ : ∃ m, m = u.fs.length := ⟨_, rfl⟩
 rw [← hmg] at hga g1 ⊢
 rw [← hmh] at hha g2 ⊢
 rw [← hmf] at hfa g3 ⊢
 have hMG := hid hmg
 have hMH := hid hmh
 have hMF := hid hmf
 clear hg hh hf hgi hhi hfi ok wf hmg hmh hmf
 have hX0 := hid (SB1.new (Below.refl w.heap.size w) #[.slice ga mg gc, .slice ha mh hc, .slice fa mf fc] 26)
 go_enter Tryz.func105, Tryz.ntmps105
 go_wp2_with fail
 go_loopw [2, 12] (fun z i wr => ∃ k : Nat, z = .bool false ∧ k ≤ mg ∧ i = .int .i64 k ∧ u.gs.all okGH = (u.gs.drop k).all okGH ∧ SB1 w w.heap.size #[.slice ga mg gc, .slice ha mh hc, .slice fa mf fc] 26 wr) (fun _ i _ => mg - (intOf i).toNat)
 case atStart => exact ⟨0, rfl, Nat.zero_le _, rfl, rfl, hX0.out⟩
 case round =>
  clear hX0
  obtain ⟨k, rfl, hk, rfl, hal, hX⟩ := hrel
  have hA := hid hal
  have hX1 := hid hX
  have hb := hid hX.below
  have p0 := hX1.out.box.cell 0
  have p1 := hX1.out.box.cell 1
  have p2 := hX1.out.box.cell 2
  simp at p0 p1 p2
  clear hal hX
  by_cases hlt : k < mg
  ·have hlt' : k < u.gs.length := by have := hMG.out; omega
   obtain ⟨⟨t, y0, _⟩, y1, y2, y3, y4⟩ := hG.out k hlt'
   have hw1 := WF.out.g _ (List.getElem_mem hlt')
   have hat := hid (all_at okGH u.gs k hlt')
   have x0 := cell_on y0 hb.out
   have x1 := cell_on y1 hb.out
   have x2 := cell_on y2 hb.out
   have x3 := cell_on y3 hb.out
   have x4 := cell_on y4 hb.out
   have hka2 : ga = some ⟨gb, go, none⟩ := by rcases hga with q | q; (· omega); (· exact q)
   subst hka2
   generalize u.gs[k]'hlt' = a at *
   obtain ⟨at0, nm, ty, ln, wd⟩ := a
   simp only [] at x0 x1 x2 x3 x4 hw1
   have hW := hid hw1
   have hY := hid (SB1.new hX1.out.below #[.int .i64 t, .string nm, .int .u8 ty, .int .u32 ln, .int .u32 wd] 105)
   have hXY := hid (fun (w2 : World) (h : Below (wr.alloc (.cells #[.int .i64 t, .string nm, .int .u8 ty, .int .u32 ln, .int .u32 wd] 105)).heap.size (wr.alloc (.cells #[.int .i64 t, .string nm, .int .u8 ty, .int .u32 ln, .int .u32 wd] 105)) w2) => hX1.out.on (((Below.refl wr.heap.size wr).alloc (Nat.le_refl _) (.cells #[.int .i64 t, .string nm, .int .u8 ty, .int .u32 ln, .int .u32 wd] 105)).trans (h.mono (by simp))))
   have hcc := hid (global28 t nm ty ln wd _ hW.out.1 hW.out.2 : Calls Tryz.prog 133 _ (wr.alloc (.cells #[.int .i64 t, .string nm, .int .u8 ty, .int .u32 ln, .int .u32 wd] 105)) _)
   clear hga hw1 y0 y1 y2 y3 y4 p0 p1 p2
   go_wp2_with fail
   refine hcc.out.mono ?_
   rintro e w2 ⟨rfl, hb2⟩
   have hX2 := hid (hXY.out w2 hb2)
   clear hb2 hcc hXY hY x0 x1 x2 x3 x4
   cases h1 : okG nm ty ln wd
   ·have hE : Hid (u.gs.all okGH = false) := hid (by rw [hA.out, hat.out]; simp only [okGH, h1]; rfl)
    go_wp2_with fail
    go_ret
    exact ⟨ret_bool (fitsU_g hE.out).symm, hX2.out.below⟩
   ·have hE : Hid (u.gs.all okGH = (u.gs.drop (k + 1)).all okGH) := hid (by rw [hA.out, hat.out]; simp only [okGH, h1]; rfl)
    go_wp2_with fail
    go_roundw
    case rel => exact ⟨k + 1, rfl, by omega, by go_num, hE.out, hX2.out⟩
    case measure => simp [intOf]; omega
  ·have hkm : k = mg := by omega
   subst k
   have hEgs : Hid (u.gs.all okGH = true) := hid (by rw [hA.out]; have := hMG.out; rw [this]; exact all_end _ _)
   clear hlt hk hA hb
   go_wp2_with fail
   clear p0 p1 p2
   go_loopw [2, 23] (fun z i wr => ∃ k : Nat, z = .bool false ∧ k ≤ mh ∧ i = .int .i64 k ∧ u.hs.all okHo = (u.hs.drop k).all okHo ∧ SB1 w w.heap.size #[.slice ga mg gc, .slice ha mh hc, .slice fa mf fc] 26 wr) (fun _ i _ => mh - (intOf i).toNat)
   case atStart => exact ⟨0, rfl, Nat.zero_le _, rfl, rfl, hX1.out⟩
   case round =>
    clear hX1
    obtain ⟨k, rfl, hk, rfl, hal, hX⟩ := hrel
    have hA := hid hal
    have hX1 := hid hX
    have hb := hid hX.below
    have p0 := hX1.out.box.cell 0
    have p1 := hX1.out.box.cell 1
    have p2 := hX1.out.box.cell 2
    simp at p0 p1 p2
    clear hal hX
    by_cases hlt : k < mh
    ·have hlt' : k < u.hs.length := by have := hMH.out; omega
     obtain ⟨⟨t, y0, _⟩, y1, ⟨pv, y2, hpv⟩, y3, y4⟩ := hH.out k hlt'
     have hw1 := WF.out.h _ (List.getElem_mem hlt')
     have hpl := OK.out.hp _ (List.getElem_mem hlt')
     have hat := hid (all_at okHo u.hs k hlt')
     have x0 := cell_on y0 hb.out
     have x1 := cell_on y1 hb.out
     have x2 := cell_on y2 hb.out
     have x3 := cell_on y3 hb.out
     have x4 := cell_on y4 hb.out
     have hka2 : ha = some ⟨hbk, ho, none⟩ := by rcases hha with q | q; (· omega); (· exact q)
     subst hka2
     generalize u.hs[k]'hlt' = a at *
     obtain ⟨at0, nm, ps, ty, nu⟩ := a
     obtain ⟨pa, pc, rfl⟩ := hpv.shape'
     simp only [] at x0 x1 x2 x3 x4 hw1 hpl
     have hW := hid hw1
     have hP := hid (And.intro hpv hpl)
     have hY := hid (SB1.new hX1.out.below #[.int .i64 t, .string nm, .slice pa ps.length pc, .int .u8 ty, .int .u32 nu] 101)
     have hXY := hid (fun (w2 : World) (h : Below (wr.alloc (.cells #[.int .i64 t, .string nm, .slice pa ps.length pc, .int .u8 ty, .int .u32 nu] 101)).heap.size (wr.alloc (.cells #[.int .i64 t, .string nm, .slice pa ps.length pc, .int .u8 ty, .int .u32 nu] 101)) w2) => hX1.out.on (((Below.refl wr.heap.size wr).alloc (Nat.le_refl _) (.cells #[.int .i64 t, .string nm, .slice pa ps.length pc, .int .u8 ty, .int .u32 nu] 101)).trans (h.mono (by simp))))
     have hcc := hid (isName29 nm (wr.alloc (.cells #[.int .i64 t, .string nm, .slice pa ps.length pc, .int .u8 ty, .int .u32 nu] 101)) hW.out.1)
     clear hha hw1 y0 y1 y2 y3 y4 hpv hpl
     go_wp2_with fail
     refine hcc.out.mono ?_
     rintro e w2 ⟨rfl, hb2⟩
     have hX2 := hid (hXY.out w2 hb2)
     have hY2 := hid (hY.out.on hb2)
     clear hb2 hcc hXY hY p0 p1 p2 x0 x1 x2 x3 x4
     have q2 := hY2.out.box.cell 2
     have q3 := hY2.out.box.cell 3
     have q4 := hY2.out.box.cell 4
     have ql := hY2.out.box.lt
     simp at q2 q3 q4
     cases h1 : nameOk nm
     ·have hE : Hid (u.hs.all okHo = false) := hid (by rw [hA.out, hat.out]; simp only [okHo, h1, Bool.false_and, Bool.true_and, Bool.and_false, Bool.not_true, Bool.not_false])
      go_wp2_with fail
      go_ret
      exact ⟨ret_bool (fitsU_h hE.out).symm, hX2.out.below⟩
     have hcc := hid (isType30 ty w2)
     go_wp2_with fail
     refine hcc.out.mono ?_
     rintro e w3 ⟨rfl, hw⟩
     subst w3
     clear hcc
     cases h2 : typeB ty
     ·have hE : Hid (u.hs.all okHo = false) := hid (by rw [hA.out, hat.out]; simp only [okHo, h1, h2, Bool.false_and, Bool.true_and, Bool.and_false, Bool.not_true, Bool.not_false])
      go_wp2_with fail
      go_ret
      exact ⟨ret_bool (fitsU_h hE.out).symm, hX2.out.below⟩
     have hcc := hid (params31 ps (.slice pa ps.length pc) w2 hP.out.2 hW.out.2 (hP.out.1.mono hX2.out.below (fun _ _ _ h => h.mono hX2.out.below)))
     go_wp2_with fail
     refine hcc.out.mono ?_
     rintro e w3 ⟨rfl, hb3⟩
     have hX3 := hid (hX2.out.on hb3)
     have hY3 := hid (hY2.out.on hb3)
     clear hb3 hcc ql q2 q3 q4 hX2 hY2
     have q4 := hY3.out.box.cell 4
     simp at q4
     cases h3 : okP ps
     ·have hE : Hid (u.hs.all okHo = false) := hid (by rw [hA.out, hat.out]; simp only [okHo, h1, h2, h3, Bool.false_and, Bool.true_and, Bool.and_false, Bool.not_true, Bool.not_false])
      go_wp2_with fail
      go_ret
      exact ⟨ret_bool (fitsU_h hE.out).symm, hX3.out.below⟩
     by_cases h4 : 2147483647 < nu
     ·have h5 : decide (2147483647 < nu) = true := by simpa using h4
      have hE : Hid (u.hs.all okHo = false) := hid (by rw [hA.out, hat.out]; simp only [okHo, h1, h2, h3, h5, Bool.false_and, Bool.true_and, Bool.and_false, Bool.not_true, Bool.not_false])
      clear h5
      go_wp2_with fail
      go_ret
      exact ⟨ret_bool (fitsU_h hE.out).symm, hX3.out.below⟩
     have h5 : decide (2147483647 < nu) = false := by simpa using h4
     have hE : Hid (u.hs.all okHo = (u.hs.drop (k + 1)).all okHo) := hid (by rw [hA.out, hat.out]; simp only [okHo, h1, h2, h3, h5, Bool.true_and, Bool.not_false])
     clear h5
     go_wp2_with fail
     go_roundw
     case rel => exact ⟨k + 1, rfl, by omega, by go_num, hE.out, hX3.out⟩
     case measure => simp [intOf]; omega
    ·have hkm : k = mh := by omega
     subst k
     have hEhs : Hid (u.hs.all okHo = true) := hid (by rw [hA.out]; have := hMH.out; rw [this]; exact all_end _ _)
     clear hlt hk hA hb
     go_wp2_with fail
     clear p0 p1 p2
     go_loopw [2, 52] (fun z i wr => ∃ k : Nat, z = .bool false ∧ k ≤ mf ∧ i = .int .i64 k ∧ u.fs.all okFu = (u.fs.drop k).all okFu ∧ SB1 w w.heap.size #[.slice ga mg gc, .slice ha mh hc, .slice fa mf fc] 26 wr) (fun _ i _ => mf - (intOf i).toNat)
     case atStart => exact ⟨0, rfl, Nat.zero_le _, rfl, rfl, hX1.out⟩
     case round =>
      clear hX1
      obtain ⟨k, rfl, hk, rfl, hal, hX⟩ := hrel
      have hA := hid hal
      have hX1 := hid hX
      have hb := hid hX.below
      have p0 := hX1.out.box.cell 0
      have p1 := hX1.out.box.cell 1
      have p2 := hX1.out.box.cell 2
      simp at p0 p1 p2
      clear hal hX
      by_cases hlt : k < mf
      ·have hlt' : k < u.fs.length := by have := hMF.out; omega
       obtain ⟨⟨t, y0, _⟩, y1, ⟨pv, y2, hpv⟩, y3, y4, ⟨bv, y5, hbv⟩⟩ := hF.out k hlt'
       have hw1 := WF.out.f _ (List.getElem_mem hlt')
       have hpl := OK.out.fp _ (List.getElem_mem hlt')
       have hbl := OK.out.fb _ (List.getElem_mem hlt')
       have hat := hid (all_at okFu u.fs k hlt')
       have x0 := cell_on y0 hb.out
       have x1 := cell_on y1 hb.out
       have x2 := cell_on y2 hb.out
       have x3 := cell_on y3 hb.out
       have x4 := cell_on y4 hb.out
       have x5 := cell_on y5 hb.out
       have hka2 : fa = some ⟨fb, fo, none⟩ := by rcases hfa with q | q; (· omega); (· exact q)
       subst hka2
       generalize u.fs[k]'hlt' = a at *
       obtain ⟨at0, nm, ps, ty, op, bd⟩ := a
       obtain ⟨pa, pc, rfl⟩ := hpv.shape'
       obtain ⟨ba, bc, rfl⟩ := hbv.shape'
       simp only [] at x0 x1 x2 x3 x4 x5 hw1 hpl hbl
       have hW := hid hw1
       have hP := hid (And.intro hpv hpl)
       have hBD := hid (And.intro hbv hbl)
       have hY := hid (SB1.new hX1.out.below #[.int .i64 t, .string nm, .slice pa ps.length pc, .int .u8 ty, .bool op, .slice ba bd.len bc] 43)
       have hXY := hid (fun (w2 : World) (h : Below (wr.alloc (.cells #[.int .i64 t, .string nm, .slice pa ps.length pc, .int .u8 ty, .bool op, .slice ba bd.len bc] 43)).heap.size (wr.alloc (.cells #[.int .i64 t, .string nm, .slice pa ps.length pc, .int .u8 ty, .bool op, .slice ba bd.len bc] 43)) w2) => hX1.out.on (((Below.refl wr.heap.size wr).alloc (Nat.le_refl _) (.cells #[.int .i64 t, .string nm, .slice pa ps.length pc, .int .u8 ty, .bool op, .slice ba bd.len bc] 43)).trans (h.mono (by simp))))
       have hcc := hid (isName29 nm (wr.alloc (.cells #[.int .i64 t, .string nm, .slice pa ps.length pc, .int .u8 ty, .bool op, .slice ba bd.len bc] 43)) hW.out.1)
       clear hfa hw1 y0 y1 y2 y3 y4 y5 hpv hpl hbv hbl
       go_wp2_with fail
       refine hcc.out.mono ?_
       rintro e w2 ⟨rfl, hb2⟩
       have hX2 := hid (hXY.out w2 hb2)
       have hY2 := hid (hY.out.on hb2)
       clear hb2 hcc hXY hY p0 p1 p2 x0 x1 x2 x3 x4 x5
       have q2 := hY2.out.box.cell 2
       have q3 := hY2.out.box.cell 3
       have q4 := hY2.out.box.cell 4
       have q5 := hY2.out.box.cell 5
       have ql := hY2.out.box.lt
       simp at q2 q3 q4 q5
       cases h1 : nameOk nm
       ·have hE : Hid (u.fs.all okFu = false) := hid (by rw [hA.out, hat.out]; simp only [okFu, h1, Bool.false_and, Bool.true_and, Bool.and_false, Bool.not_true, Bool.not_false])
        go_wp2_with fail
        go_ret
        exact ⟨ret_bool (fitsU_f hE.out).symm, hX2.out.below⟩
       have hcc := hid (isType30 ty w2)
       go_wp2_with fail
       refine hcc.out.mono ?_
       rintro e w3 ⟨rfl, hw⟩
       subst w3
       clear hcc
       cases h2 : typeB ty
       ·have hE : Hid (u.fs.all okFu = false) := hid (by rw [hA.out, hat.out]; simp only [okFu, h1, h2, Bool.false_and, Bool.true_and, Bool.and_false, Bool.not_true, Bool.not_false])
        go_wp2_with fail
        go_ret
        exact ⟨ret_bool (fitsU_f hE.out).symm, hX2.out.below⟩
       have hcc := hid (params31 ps (.slice pa ps.length pc) w2 hP.out.2 hW.out.2.1 (hP.out.1.mono hX2.out.below (fun _ _ _ h => h.mono hX2.out.below)))
       go_wp2_with fail
       refine hcc.out.mono ?_
       rintro e w3 ⟨rfl, hb3⟩
       have hX3 := hid (hX2.out.on hb3)
       have hY3 := hid (hY2.out.on hb3)
       clear hb3 hcc ql q2 q3 q4 q5 hX2 hY2
       have q5 := hY3.out.box.cell 5
       simp at q5
       cases h3 : okP ps
       ·have hE : Hid (u.fs.all okFu = false) := hid (by rw [hA.out, hat.out]; simp only [okFu, h1, h2, h3, Bool.false_and, Bool.true_and, Bool.and_false, Bool.not_true, Bool.not_false])
        go_wp2_with fail
        go_ret
        exact ⟨ret_bool (fitsU_f hE.out).symm, hX3.out.below⟩
       have hcc := hid (fits32 _ bd (.slice ba bd.len bc) w3 (Nat.lt_succ_self _) hBD.out.2 hW.out.2.2 (hBD.out.1.mono hX3.out.below))
       go_wp2_with fail
       refine hcc.out.mono ?_
       rintro e w4 ⟨rfl, hb4⟩
       have hX4 := hid (hX3.out.on hb4)
       clear hb4 hcc q5 hX3 hY3
       cases h4 : okS bd
       ·have hE : Hid (u.fs.all okFu = false) := hid (by rw [hA.out, hat.out]; simp only [okFu, h1, h2, h3, h4, Bool.false_and, Bool.true_and, Bool.and_false, Bool.not_true, Bool.not_false])
        go_wp2_with fail
        go_ret
        exact ⟨ret_bool (fitsU_f hE.out).symm, hX4.out.below⟩
       have hE : Hid (u.fs.all okFu = (u.fs.drop (k + 1)).all okFu) := hid (by rw [hA.out, hat.out]; simp only [okFu, h1, h2, h3, h4, Bool.true_and, Bool.not_false])
       go_wp2_with fail
       go_roundw
       case rel => exact ⟨k + 1, rfl, by omega, by go_num, hE.out, hX4.out⟩
       case measure => simp [intOf]; omega
      ·have hkm : k = mf := by omega
       subst k
       have hEfs : Hid (u.fs.all okFu = true) := hid (by rw [hA.out]; have := hMF.out; rw [this]; exact all_end _ _)
       clear hlt hk hA hb
       go_wp2_with fail
       go_ret
       exact ⟨ret_bool (fitsU_y hEgs.out hEhs.out hEfs.out).symm, hX1.out.below⟩
end
section
open Go.Shelf
def deepB (f : FH) : Bool := decide (64 < htS f.body)
def sumU (l : List FH) : Nat := (l.map fun f => f.body.sz).sum
def chkU (u : UT) : Int := if fitsU u then (if u.fs.any deepB then 283 else if 16384 < sumU u.fs then 280 else 0) else 284
theorem chkU_no {u : UT} (h : fitsU u = false) : chkU u = 284 := by unfold chkU; rw [h]; rfl
theorem chkU_deep {u : UT} (h : fitsU u = true) (h2 : u.fs.any deepB = true) : chkU u = 283 := by unfold chkU; rw [h, h2]; rfl
theorem chkU_many {u : UT} (h : fitsU u = true) (h2 : u.fs.any deepB = false) (h3 : 16384 < sumU u.fs) : chkU u = 280 := by unfold chkU; rw [h, h2]; simp [h3]
theorem chkU_ok {u : UT} (h : fitsU u = true) (h2 : u.fs.any deepB = false) (h3 : ¬ 16384 < sumU u.fs) : chkU u = 0 := by unfold chkU; rw [h, h2]; simp [h3]
theorem any_at {α : Type} (f : α → Bool) (l : List α) (k : Nat) (h : k < l.length) : (l.drop k).any f = (f l[k] || (l.drop (k + 1)).any f) := by
 rw [List.drop_eq_getElem_cons h]
 rfl
theorem any_end {α : Type} (f : α → Bool) (l : List α) : (l.drop l.length).any f = false := by
 rw [List.drop_eq_nil_of_le (Nat.le_refl _)]
 rfl
theorem sumU_at (l : List FH) (k : Nat) (h : k < l.length) : sumU (l.drop k) = l[k].body.sz + sumU (l.drop (k + 1)) := by
 unfold sumU
 rw [List.drop_eq_getElem_cons h, List.map_cons, List.sum_cons]
theorem sumU_end (l : List FH) : sumU (l.drop l.length) = 0 := by
 rw [List.drop_eq_nil_of_le (Nat.le_refl _)]
 rfl
theorem sumU_zero (l : List FH) : sumU (l.drop 0) = sumU l := rfl
theorem check6 (u : UT) (v : Value) (w : World) (ok : u.Ok) (wf : u.Wf) (hv : UIn w false none u v) :
  Calls Tryz.prog 63 #[v] w fun e w' => e = .returned (.int .i64 (chkU u)) ∧ Below w.heap.size w w' := by
 have hV := hid hv
 obtain ⟨vg, vh, vf, rfl, hg, hh, hf⟩ := hv
 obtain ⟨ga, gb, go, gc, rfl, hga, hgi⟩ := SlR.open hg
 obtain ⟨ha, hbk, ho, hc, rfl, hha, hhi⟩ := SlR.open hh
 obtain ⟨fa, fb, fo, fc, rfl, hfa, hfi⟩ := SlR.open hf
 have hG := hid hgi
 have hH := hid hhi
 have hF := hid hfi
 have OK := hid ok
 have WF := hid wf
 have g1 := ok.g
 have g2 := ok.h
 have g3 := ok.f
 obtain ⟨mg, hmg⟩ : ∃ m, m = u.gs.length := ⟨_, rfl⟩
 obtain ⟨mh, hmh⟩ : ∃ m, m = u.hs.length := ⟨_, rfl⟩
 obtain ⟨mf, hmf⟩ : ∃ m, m = u.fs.length := ⟨_, rfl⟩
 rw [← hmg] at hga g1 ⊢
 rw [← hmh] at hha g2 ⊢
 rw [← hmf] at hfa g3 ⊢
 have hMG := hid hmg
 have hMH := hid hmh
 have hMF := hid hmf
 clear hg hh hf hgi hhi hfi ok wf hmg hmh hmf
 have hX0 := hid (SB1.new (Below.refl w.heap.size w) #[.slice ga mg gc, .slice ha mh hc, .slice fa mf fc] 26)
 have hcf := hid (fits13 u (.agg #[.slice ga mg gc, .slice ha mh hc, .slice fa mf fc]) _ OK.out WF.out ((show UIn w false none u (.agg #[.slice ga mg gc, .slice ha mh hc, .slice fa mf fc]) by rw [hMG.out, hMH.out, hMF.out] at *; exact hV.out).mono hX0.out.below))
 clear hga hha hG hH
 go_enter Tryz.func63, Tryz.ntmps63
 go_wp2_with fail
 refine hcf.out.mono ?_
 rintro e w2 ⟨rfl, hb2⟩
 have hX1 := hid (hX0.out.on hb2)
 have p2 := hX1.out.box.cell 2
 simp at p2
 clear hb2 hcf hX0
 cases hfit : fitsU u
 ·go_wp2_with fail
  go_ret
  exact ⟨ret_int (chkU_no hfit).symm, hX1.out.below⟩
 have hFit := hid hfit
 clear hfit
 go_wp2_with fail
 clear p2
 go_loopw [2, 3, 12] (fun z s i wr => ∃ k m : Nat, z = .int .i64 0 ∧ s = .int .i64 m ∧ k ≤ mf ∧ i = .int .i64 k ∧ u.fs.any deepB = (u.fs.drop k).any deepB ∧ sumU u.fs = m + sumU (u.fs.drop k) ∧ m ≤ k * 100000000 ∧ Below w.heap.size w wr) (fun _ _ i _ => mf - (intOf i).toNat)
 case atStart => exact ⟨0, 0, rfl, rfl, Nat.zero_le _, rfl, rfl, by simp [sumU_zero], by omega, hX1.out.below⟩
 case round =>
  clear hX1
  obtain ⟨k, m, rfl, rfl, hk, rfl, hal, hsum, hm, hb⟩ := hrel
  have hA := hid hal
  have hSu := hid hsum
  have hB := hid hb
  clear hal hsum
  by_cases hlt : k < mf
  ·have hlt' : k < u.fs.length := by have := hMF.out; omega
   obtain ⟨⟨t, y0, _⟩, y1, ⟨pv, y2, hpv⟩, y3, y4, ⟨bv, y5, hbv⟩⟩ := hF.out k hlt'
   have hbl := OK.out.fb _ (List.getElem_mem hlt')
   have hat := hid (any_at deepB u.fs k hlt')
   have hst := hid (sumU_at u.fs k hlt')
   have x0 := cell_on y0 hb
   have x1 := cell_on y1 hb
   have x2 := cell_on y2 hb
   have x3 := cell_on y3 hb
   have x4 := cell_on y4 hb
   have x5 := cell_on y5 hb
   have hka2 : fa = some ⟨fb, fo, none⟩ := by rcases hfa with q | q; (· omega); (· exact q)
   subst hka2
   generalize u.fs[k]'hlt' = a at *
   obtain ⟨at0, nm, ps, ty, op, bd⟩ := a
   obtain ⟨pa, pc, rfl⟩ := hpv.shape'
   obtain ⟨ba, bc, rfl⟩ := hbv.shape'
   simp only [] at x0 x1 x2 x3 x4 x5 hbl hst
   have hd := htS_le bd
   have hdb : htS bd ≤ 100000000 := by omega
   have hY := hid (SB1.new hb #[.int .i64 t, .string nm, .slice pa ps.length pc, .int .u8 ty, .bool op, .slice ba bd.len bc] 43)
   have hBD := hid (And.intro hbv hbl)
   have hcd := hid (deepest14 _ bd (.slice ba bd.len bc) (wr.alloc (.cells #[.int .i64 t, .string nm, .slice pa ps.length pc, .int .u8 ty, .bool op, .slice ba bd.len bc] 43)) (Nat.lt_succ_self _) hbl (hbv.mono (hY.out.below)))
   clear hfa y0 y1 y2 y3 y4 y5 hpv hbv hb hd
   go_wp2_with fail
   refine hcd.out.mono ?_
   rintro e w3 ⟨rfl, hb3⟩
   have hY3 := hid (hY.out.on hb3)
   have q5 := hY3.out.box.cell 5
   simp at q5
   clear hb3 hcd x0 x1 x2 x3 x4 x5 hY
   by_cases hdeep : 64 < htS bd
   ·have hE : Hid (u.fs.any deepB = true) := hid (by rw [hA.out, hat.out]; have : deepB ⟨at0, nm, ps, ty, op, bd⟩ = true := (by simpa [deepB] using hdeep); rw [this]; rfl)
    go_wp2_with fail
    go_ret
    exact ⟨ret_int (chkU_deep hFit.out hE.out).symm, hY3.out.below⟩
   have hE : Hid (u.fs.any deepB = (u.fs.drop (k + 1)).any deepB) := hid (by rw [hA.out, hat.out]; have : deepB ⟨at0, nm, ps, ty, op, bd⟩ = false := (by simpa [deepB] using hdeep); rw [this]; rfl)
   have hcm := hid (many15 _ bd (.slice ba bd.len bc) w3 (Nat.lt_succ_self _) hBD.out.2 (hBD.out.1.mono hY3.out.below))
   go_wp2_with fail
   refine hcm.out.mono ?_
   rintro e w4 ⟨rfl, hb4⟩
   have hY4 := hid (hY3.out.on hb4)
   clear hb4 hcm q5 hY3
   go_wp2_with fail
   go_roundw
   case rel => exact ⟨k + 1, m + bd.sz, rfl, by go_num, by omega, by go_num, hE.out, by rw [hSu.out, hst.out]; omega, by omega, hY4.out.below⟩
   case measure => simp [intOf]; omega
  ·have hkm : k = mf := by omega
   subst k
   have hE : Hid (u.fs.any deepB = false) := hid (by rw [hA.out]; have := hMF.out; rw [this]; exact any_end _ _)
   have hS : Hid (sumU u.fs = m) := hid (by rw [hSu.out]; have := hMF.out; rw [this, sumU_end]; omega)
   clear hb
   by_cases hmany : 16384 < m
   ·go_wp2_with fail
    go_ret
    exact ⟨ret_int (chkU_many hFit.out hE.out (by rw [hS.out]; exact hmany)).symm, hB.out⟩
   ·go_wp2_with fail
    go_ret
    exact ⟨ret_int (chkU_ok hFit.out hE.out (by rw [hS.out]; exact hmany)).symm, hB.out⟩
end
end Go.Proofs.YtlabadkfkbenoaaGreatDoor
