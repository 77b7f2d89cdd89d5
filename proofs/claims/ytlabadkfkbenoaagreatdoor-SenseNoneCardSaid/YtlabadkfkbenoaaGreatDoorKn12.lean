/- Walks and plain laws, merged: ChkL. No condition. -/
import Derived.Test.YtlabadkfkbenoaaGreatDoorProg
import Derived.Outline
import Derived.Deep.RegionHeld3
import Derived.Test.YtlabadkfkbenoaaGreatDoorKn01
import Derived.Test.YtlabadkfkbenoaaGreatDoorKn11
namespace Go.Proofs.YtlabadkfkbenoaaGreatDoor
open Go.RowKit
set_option linter.unusedVariables false
set_option linter.unusedSimpArgs false
set_option maxRecDepth 100000
section
open Go.Shelf
def htE : Exs → Nat
 | .nil => 0
 | .cons _ k r => max (htE k + 1) (htE r)
def htS : Sts → Nat
 | .nil => 0
 | .cons _ x b e r => max (max (htE x) (max (htS b) (htS e)) + 1) (htS r)
theorem max_if (m H : Nat) : (if m < H then (H : Int) else (m : Int)) = ((max m H : Nat) : Int) := by split <;> omega
theorem htE_le : ∀ l : Exs, htE l ≤ l.sz
 | .nil => Nat.le_refl _
 | .cons h k r => by have := htE_le k; have := htE_le r; simp only [htE, Exs.sz]; omega
theorem htS_le : ∀ l : Sts, htS l ≤ l.sz
 | .nil => Nat.le_refl _
 | .cons h x b e r => by have := htE_le x; have := htS_le b; have := htS_le e; have := htS_le r; simp only [htS, Sts.sz]; omega
set_option maxHeartbeats 4000000 in
theorem height33 : ∀ (n : Nat) (t : Int) (h : EH) (kids : Exs) (v : Value) (w : World), kids.sz < n → kids.sz ≤ 100000000 → SlE w false none kids v →
  Calls Tryz.prog 138 #[aggE t h v] w fun e w' => e = .returned (.int .i64 ((htE kids + 1 : Nat) : Int)) ∧ Below w.heap.size w w' := by
 intro n
 induction n with
 | zero => intro t h kids v w hn; omega
 | succ n ih =>
  have IH := hid ih
  clear ih
  intro t h kids v w hn hs hv
  obtain ⟨ka, b, off, c, rfl, hka, hin⟩ := hv
  have hl := kids.len_le
  have hh := htE_le kids
  have hS := hid (And.intro hn hs)
  have hI := hid hin
  have hkb : kids.len ≤ 100000000 := by omega
  have hhb : htE kids ≤ 100000000 := by omega
  obtain ⟨a0, a1, a2, a3, a4, a5⟩ := h
  obtain ⟨len, hlen⟩ : ∃ m, m = kids.len := ⟨_, rfl⟩
  obtain ⟨H, hH⟩ : ∃ m, m = htE kids := ⟨_, rfl⟩
  rw [← hlen] at hka hl hkb ⊢
  rw [← hH] at hhb ⊢
  have hLen := hid hlen
  have hHt := hid hH
  clear hn hs hin hlen hH hh hl
  have hB0 := hid ((Below.refl w.heap.size w).alloc (Nat.le_refl _) (.cells #[.int .i64 t, .int .u8 a1, .int .u32 a2, .int .u8 a3, .string a4, .string a5, .slice ka len c] 134))
  go_enter Tryz.func138, Tryz.ntmps138
  go_wp2_with fail
  go_loopw [3, 9] (fun z i wr => ∃ (k m : Nat) (r : Exs), z = .int .i64 m ∧ k + r.len = len ∧ i = .int .i64 k ∧ ExsIn w false none r b off k ∧ r.sz ≤ kids.sz ∧ H = max m (htE r) ∧ Below w.heap.size w wr) (fun _ i _ => len - (intOf i).toNat)
  case atStart => exact ⟨0, 0, kids, rfl, by have := hLen.out; omega, rfl, hI.out, Nat.le_refl _, by rw [hHt.out]; simp, hB0.out⟩
  case round =>
   clear hI hB0
   obtain ⟨k, m, r, rfl, hk, rfl, hr, hz, hm, hb⟩ := hrel
   have hB := hid hb
   cases r with
   | nil =>
    simp only [Exs.len, Nat.add_zero] at hk
    subst k
    have hm2 : Hid (H = m) := hid (by rw [hm]; simp [htE])
    have hmb : m ≤ 100000000 := by have := hm2.out; omega
    clear hr hz hm hb
    go_wp2_with fail
    go_ret
    exact ⟨ret_int (by rw [hm2.out]; omega), hB.out⟩
   | cons h' kids' rest =>
    simp only [Exs.len, Exs.sz] at hk hz
    obtain ⟨⟨⟨t', y0, _⟩, y1, y2, y3, y4, y5⟩, ⟨u, y6, hu⟩, hR⟩ := hr.cons
    have x0 := cell_on y0 hb
    have x1 := cell_on y1 hb
    have x2 := cell_on y2 hb
    have x3 := cell_on y3 hb
    have x4 := cell_on y4 hb
    have x5 := cell_on y5 hb
    have x6 := cell_on y6 hb
    have hkk : k < len := by omega
    have hka2 : ka = some ⟨b, off, none⟩ := by rcases hka with q | q; (· omega); (· exact q.1)
    subst hka2
    obtain ⟨ua, uc, rfl⟩ := hu.shape'
    have hal := hid ((Below.refl wr.heap.size wr).alloc (Nat.le_refl _) (.cells #[.int .i64 t', .int .u8 h'.kind, .int .u32 h'.word, .int .u8 h'.type, .string h'.name, .string h'.sign, .slice ua kids'.len uc] 134))
    have hCall := hid (IH.out t' h' kids' (.slice ua kids'.len uc) (wr.alloc (.cells #[.int .i64 t', .int .u8 h'.kind, .int .u32 h'.word, .int .u8 h'.type, .string h'.name, .string h'.sign, .slice ua kids'.len uc] 134)) (by have := hS.out; omega) (by have := hS.out; omega) (hu.mono (hb.trans (hal.out.mono hb.size))))
    have hRR := hid (And.intro hR hz)
    have hM := hid hm
    clear hka hr hu hR hz hb y0 y1 y2 y3 y4 y5 y6 hm
    go_wp2_with fail
    refine hCall.out.mono ?_
    rintro e w2 ⟨rfl, hb2⟩
    have hB2 := hid (hB.out.trans ((hal.out.trans (hb2.mono (by simp))).mono hB.out.size))
    clear hb2 hCall x0 x1 x2 x3 x4 x5 x6 hal
    obtain ⟨H', hH'⟩ : ∃ q, q = htE kids' + 1 := ⟨_, rfl⟩
    rw [← hH']
    have hH2 := hid hH'
    clear hH'
    go_wp2_with fail
    go_roundw
    case rel => exact ⟨k + 1, max m H', rest, by rw [max_if], by omega, by go_num, hRR.out.1, by have := hRR.out.2; omega, by rw [hM.out, hH2.out]; simp only [htE]; omega, hB2.out⟩
    case measure => simp [intOf]; omega
set_option maxHeartbeats 4000000 in
theorem parts34 : ∀ (n : Nat) (t : Int) (h : EH) (kids : Exs) (v : Value) (w : World), kids.sz < n → kids.sz ≤ 100000000 → SlE w false none kids v →
  Calls Tryz.prog 139 #[aggE t h v] w fun e w' => e = .returned (.int .i64 ((kids.sz + 1 : Nat) : Int)) ∧ Below w.heap.size w w' := by
 intro n
 induction n with
 | zero => intro t h kids v w hn; omega
 | succ n ih =>
  have IH := hid ih
  clear ih
  intro t h kids v w hn hs hv
  obtain ⟨ka, b, off, c, rfl, hka, hin⟩ := hv
  have hl := kids.len_le
  have hS := hid (And.intro hn hs)
  have hI := hid hin
  have hkb : kids.len ≤ 100000000 := by omega
  have hhb : kids.sz ≤ 100000000 := by omega
  obtain ⟨a0, a1, a2, a3, a4, a5⟩ := h
  obtain ⟨len, hlen⟩ : ∃ m, m = kids.len := ⟨_, rfl⟩
  obtain ⟨H, hH⟩ : ∃ m, m = kids.sz := ⟨_, rfl⟩
  rw [← hlen] at hka hl hkb ⊢
  rw [← hH] at hhb ⊢
  have hLen := hid hlen
  have hHt := hid hH
  clear hn hs hin hlen hH hl
  have hB0 := hid ((Below.refl w.heap.size w).alloc (Nat.le_refl _) (.cells #[.int .i64 t, .int .u8 a1, .int .u32 a2, .int .u8 a3, .string a4, .string a5, .slice ka len c] 134))
  go_enter Tryz.func139, Tryz.ntmps139
  go_wp2_with fail
  go_loopw [3, 9] (fun z i wr => ∃ (k m : Nat) (r : Exs), z = .int .i64 m ∧ k + r.len = len ∧ i = .int .i64 k ∧ ExsIn w false none r b off k ∧ r.sz ≤ kids.sz ∧ H + 1 = m + r.sz ∧ Below w.heap.size w wr) (fun _ i _ => len - (intOf i).toNat)
  case atStart => exact ⟨0, 1, kids, rfl, by have := hLen.out; omega, rfl, hI.out, Nat.le_refl _, by rw [hHt.out]; omega, hB0.out⟩
  case round =>
   clear hI hB0
   obtain ⟨k, m, r, rfl, hk, rfl, hr, hz, hm, hb⟩ := hrel
   have hB := hid hb
   cases r with
   | nil =>
    simp only [Exs.len, Nat.add_zero] at hk
    subst k
    have hm2 : Hid (H + 1 = m) := hid (by rw [hm]; simp [Exs.sz])
    have hmb : m ≤ 100000001 := by have := hm2.out; omega
    clear hr hz hm hb
    go_wp2_with fail
    go_ret
    exact ⟨ret_int (by rw [hm2.out]), hB.out⟩
   | cons h' kids' rest =>
    simp only [Exs.len, Exs.sz] at hk hz
    obtain ⟨⟨⟨t', y0, _⟩, y1, y2, y3, y4, y5⟩, ⟨u, y6, hu⟩, hR⟩ := hr.cons
    have x0 := cell_on y0 hb
    have x1 := cell_on y1 hb
    have x2 := cell_on y2 hb
    have x3 := cell_on y3 hb
    have x4 := cell_on y4 hb
    have x5 := cell_on y5 hb
    have x6 := cell_on y6 hb
    have hkk : k < len := by omega
    have hka2 : ka = some ⟨b, off, none⟩ := by rcases hka with q | q; (· omega); (· exact q.1)
    subst hka2
    obtain ⟨ua, uc, rfl⟩ := hu.shape'
    have hal := hid ((Below.refl wr.heap.size wr).alloc (Nat.le_refl _) (.cells #[.int .i64 t', .int .u8 h'.kind, .int .u32 h'.word, .int .u8 h'.type, .string h'.name, .string h'.sign, .slice ua kids'.len uc] 134))
    have hCall := hid (IH.out t' h' kids' (.slice ua kids'.len uc) (wr.alloc (.cells #[.int .i64 t', .int .u8 h'.kind, .int .u32 h'.word, .int .u8 h'.type, .string h'.name, .string h'.sign, .slice ua kids'.len uc] 134)) (by have := hS.out; omega) (by have := hS.out; omega) (hu.mono (hb.trans (hal.out.mono hb.size))))
    have hRR := hid (And.intro hR hz)
    have hM := hid hm
    clear hka hr hu hR hz hb y0 y1 y2 y3 y4 y5 y6 hm
    go_wp2_with fail
    refine hCall.out.mono ?_
    rintro e w2 ⟨rfl, hb2⟩
    have hB2 := hid (hB.out.trans ((hal.out.trans (hb2.mono (by simp))).mono hB.out.size))
    clear hb2 hCall x0 x1 x2 x3 x4 x5 x6 hal
    obtain ⟨H', hH'⟩ : ∃ q, q = kids'.sz + 1 := ⟨_, rfl⟩
    rw [← hH']
    have hmb : m + H' ≤ 100000001 := by have := hM.out; simp only [Exs.sz] at this; omega
    have hH2 := hid hH'
    clear hH'
    go_wp2_with fail
    go_roundw
    case rel => exact ⟨k + 1, m + H', rest, by go_num, by omega, by go_num, hRR.out.1, by have := hRR.out.2; omega, by rw [hM.out, hH2.out]; simp only [Exs.sz]; omega, hB2.out⟩
    case measure => simp [intOf]; omega
open Go.Shelf
structure SB1 (w : World) (q : Nat) (box : Array Value) (t : TypeId) (w' : World) : Prop where
 box : Bx w' q box t
 below : Below w.heap.size w w'
theorem SB1.on {w w1 w2 : World} {q : Nat} {box : Array Value} {t : TypeId} (h : SB1 w q box t w1) (hb : Below w1.heap.size w1 w2) : SB1 w q box t w2 :=
 ⟨h.box.on (grown_of_below hb) (by simp), h.below.trans (hb.mono h.below.size)⟩
theorem SB1.drew {w w1 : World} {q : Nat} {box : Array Value} {t : TypeId} (h : SB1 w q box t w1) : SB1 w q box t w1.drew := h.on (Below.refl _ _).drew
theorem SB1.new {w w1 : World} (h : Below w.heap.size w w1) (box : Array Value) (t : TypeId) : SB1 w w1.heap.size box t (w1.alloc (.cells box t)) := ⟨Bx.new w1 box t, h.alloc h.size _⟩
structure SW1 (w : World) (w' : World) : Prop where
 below : Below w.heap.size w w'
theorem SW1.on {w w1 w2 : World} (h : SW1 w w1) (hb : Below w1.heap.size w1 w2) : SW1 w w2 := ⟨h.below.trans (hb.mono h.below.size)⟩
theorem SW1.drew {w w1 : World} (h : SW1 w w1) : SW1 w w1.drew := h.on (Below.refl _ _).drew
set_option maxHeartbeats 8000000 in
theorem deepest14 : ∀ (n : Nat) (l : Sts) (v : Value) (w : World), l.sz < n → l.sz ≤ 100000000 → SlS w false none l v →
  Calls Tryz.prog 106 #[v] w fun e w' => e = .returned (.int .i64 ((htS l : Nat) : Int)) ∧ Below w.heap.size w w' := by
 intro n
 induction n with
 | zero => intro l v w hn; omega
 | succ n ih =>
  have IH := hid ih
  clear ih
  intro l v w hn hs hv
  obtain ⟨ka, b, off, c, rfl, hka, hin⟩ := hv
  have hl := l.len_le
  have hh : htS l ≤ l.sz := htS_le l
  have hS := hid (And.intro hn hs)
  have hI := hid hin
  have hkb : l.len ≤ 100000000 := by omega
  have hhb : htS l ≤ 100000000 := by omega
  obtain ⟨len, hlen⟩ : ∃ m, m = l.len := ⟨_, rfl⟩
  obtain ⟨H, hH⟩ : ∃ m, m = htS l := ⟨_, rfl⟩
  rw [← hlen] at hka hl hkb ⊢
  rw [← hH] at hhb ⊢
  have hLen := hid hlen
  have hHt := hid hH
  clear hn hs hin hlen hH hh hl
  go_enter Tryz.func106, Tryz.ntmps106
  go_wp2_with fail
  go_loopw [3, 11] (fun z i wr => ∃ (k m : Nat) (r : Sts), z = .int .i64 m ∧ k + r.len = len ∧ i = .int .i64 k ∧ StsIn w false none r b off k ∧ r.sz ≤ l.sz ∧ H = max m (htS r) ∧ Below w.heap.size w wr) (fun _ i _ => len - (intOf i).toNat)
  case atStart => exact ⟨0, 0, l, rfl, by have := hLen.out; omega, rfl, hI.out, Nat.le_refl _, by rw [hHt.out]; simp, Below.refl _ _⟩
  case round =>
   clear hI
   obtain ⟨k, m, r, rfl, hk, rfl, hr, hz, hm, hb⟩ := hrel
   obtain ⟨wo, rfl⟩ : ∃ wo : World, wo = wr := ⟨_, rfl⟩
   have hB := hid hb
   have hM := hid hm
   cases r with
   | nil =>
    simp only [Sts.len, Nat.add_zero] at hk
    subst k
    have hm2 : Hid (H = m) := hid (by rw [hm]; simp [htS])
    have hmb : m ≤ 100000000 := by have := hm2.out; omega
    clear hr hz hm hb
    go_wp2_with fail
    go_ret
    exact ⟨ret_int (by rw [hm2.out]), hB.out⟩
   | cons h x body els rest =>
    simp only [Sts.len, Sts.sz] at hk hz
    obtain ⟨⟨⟨t, y0, _⟩, y1, y2, y3, y4⟩, ⟨vx, y5, hx⟩, ⟨vb, y6, hbd⟩, ⟨ve, y7, he⟩, hR⟩ := hr.cons
    have x0 := cell_on y0 hb
    have x1 := cell_on y1 hb
    have x2 := cell_on y2 hb
    have x3 := cell_on y3 hb
    have x4 := cell_on y4 hb
    have x5 := cell_on y5 hb
    have x6 := cell_on y6 hb
    have x7 := cell_on y7 hb
    have hkk : k < len := by omega
    have hka2 : ka = some ⟨b, off, none⟩ := by rcases hka with q | q; (· omega); (· exact q.1)
    subst hka2
    obtain ⟨xa, xc, rfl⟩ := hx.shape'
    obtain ⟨ba, bc, rfl⟩ := hbd.shape'
    obtain ⟨ea, ec, rfl⟩ := he.shape'
    obtain ⟨xb, xo, hxa, hxin⟩ : ∃ xb xo, (x.len = 0 ∨ xa = some ⟨xb, xo, none⟩) ∧ ExsIn w false none x xb xo 0 := by
     obtain ⟨ka', kb, koff, kcap, hv, y2, y3⟩ := hx
     cases hv
     exact ⟨kb, koff, y2.imp And.left And.left, y3⟩
    have hxl := x.len_le
    have hxlen : x.len ≤ 100000000 := by have := hS.out; omega
    obtain ⟨a0, a1, a2, a3, a4⟩ := h
    have hXI := hid hxin
    have hSz := hid hz
    have hRR := hid hR
    have hXv := hid hx
    have hcb := hid (fun (w2 : World) (h2 : Below w.heap.size w w2) => IH.out body (.slice ba body.len bc) w2 (by have := hS.out; have := hSz.out; omega) (by have := hS.out; have := hSz.out; omega) (hbd.mono h2))
    have hce := hid (fun (w2 : World) (h2 : Below w.heap.size w w2) => IH.out els (.slice ea els.len ec) w2 (by have := hS.out; have := hSz.out; omega) (by have := hS.out; have := hSz.out; omega) (he.mono h2))
    have hbb : htS body ≤ body.sz := htS_le body
    have heb : htS els ≤ els.sz := htS_le els
    have hbb2 : htS body ≤ 100000000 := by have := hS.out; omega
    have heb2 : htS els ≤ 100000000 := by have := hS.out; omega
    obtain ⟨Hb, hHb⟩ : ∃ m, m = htS body := ⟨_, rfl⟩
    obtain ⟨He, hHe⟩ : ∃ m, m = htS els := ⟨_, rfl⟩
    rw [← hHb] at hbb hbb2
    rw [← hHe] at heb heb2
    have hHB := hid hHb
    have hHE := hid hHe
    rw [← hHb] at hcb
    rw [← hHe] at hce
    have hS1 := hid (SB1.new hb #[.int .i64 t, .int .u8 a1, .string a2, .int .u8 a3, .string a4, .slice xa x.len xc, .slice ba body.len bc, .slice ea els.len ec] 109)
    have hxb : htE x ≤ x.sz := htE_le x
    have hxb2 : htE x ≤ 100000000 := by have := hS.out; omega
    clear hka hr hx hbd he hR hb y0 y1 y2 y3 y4 y5 y6 y7 hxin hxl hm hHb hHe hz
    go_wp2_with fail
    clear x0 x1 x2 x3 x4 x5 x6 x7
    refine wp_region_held_drew (S := (SB1 w wo.heap.size #[.int .i64 t, .int .u8 a1, .string a2, .int .u8 a3, .string a4, .slice xa x.len xc, .slice ba body.len bc, .slice ea els.len ec] 109)) (by kernel_rfl) hS1.out.drew (fun hHeld => ?_)
    clear hS1
    refine tk 0 ?_ (hy := ?_) (h := ?_)
    rotate_left
    ·intro w' hSw; go_simp; (try with_reducible rfl)
    try simp only [tpa, tpb, tpc, tpd, tpe]
    refine tk 1 ?_ (hy := ?_) (h := ?_)
    rotate_left
    ·intro w' hSw; have c5 := hSw.box.cell 5; have c6 := hSw.box.cell 6; have c7 := hSw.box.cell 7; simp at c5 c6 c7; go_simp; (try with_reducible rfl)
    try simp only [tpa, tpb, tpc, tpd, tpe]
    refine tk 3 ?_ (hy := ?_) (h := ?_)
    rotate_left
    ·intro w' hSw; go_simp; (try with_reducible rfl)
    try simp only [tpa, tpb, tpc, tpd, tpe]
    refine tk 4 ?_ (hy := ?_) (h := ?_)
    rotate_left
    ·intro w' hSw; have c5 := hSw.box.cell 5; have c6 := hSw.box.cell 6; have c7 := hSw.box.cell 7; simp at c5 c6 c7; go_simp; (try with_reducible rfl)
    try simp only [tpa, tpb, tpc, tpd, tpe]
    refine tr 2 (h := fun K hK => ?_)
    go_simp
    go_at_call 106
    refine (hcb.out _ hHeld.below).mono ?_
    rintro e w2 ⟨rfl, hb2⟩
    have hk := hHeld.on hb2
    clear hHeld hb2
    go_wp2_with fail
    refine hK.out _ _ hk (fun hHeld => ?_)
    clear hK K hk
    try simp only [tpa, tpb, tpc, tpd, tpe]
    refine tr 5 (h := fun K hK => ?_)
    go_simp
    go_at_call 106
    refine (hce.out _ hHeld.below).mono ?_
    rintro e w2 ⟨rfl, hb2⟩
    have hk := hHeld.on hb2
    clear hHeld hb2
    go_wp2_with fail
    refine hK.out _ _ hk (fun hHeld => ?_)
    clear hK K hk
    try simp only [tpa, tpb, tpc, tpd, tpe]
    refine tk 6 ?_ (hy := ?_) (h := ?_)
    rotate_left
    ·intro w' hSw; go_simp; (try with_reducible rfl)
    try simp only [tpa, tpb, tpc, tpd, tpe]
    refine tk 7 ?_ (hy := ?_) (h := ?_)
    rotate_left
    ·intro w' hSw; go_simp; (try with_reducible rfl)
    try simp only [tpa, tpb, tpc, tpd, tpe]
    refine wpAnyH_done (by kernel_rfl) ?_ _
    have hX := hid hHeld
    simp only [max_if]
    have p5 := hHeld.box.cell 5
    simp at p5
    clear hHeld
    go_wp2_with fail
    clear p5
    go_loopw [6, 25] (fun z i wr => ∃ (j m2 : Nat) (q : Exs), z = .int .i64 m2 ∧ j + q.len = x.len ∧ i = .int .i64 j ∧ ExsIn w false none q xb xo j ∧ q.sz ≤ x.sz ∧ max (htE x) (max Hb He) = max m2 (htE q) ∧ Below w.heap.size w wr) (fun _ i _ => x.len - (intOf i).toNat)
    case atStart => exact ⟨0, max Hb He, x, by simp only [max_if], by omega, rfl, hXI.out, Nat.le_refl _, by omega, hX.out.below⟩
    case round =>
     clear hXI hX
     obtain ⟨j, m2, q, rfl, hj, rfl, hq, hqz, hqm, hb⟩ := hrel
     have hB5 := hid hb
     have hQM := hid hqm
     cases q with
     | nil =>
      simp only [Exs.len, Nat.add_zero] at hj
      subst j
      have hm2b : m2 ≤ 100000000 := by have := hQM.out; simp only [htE] at this; omega
      clear hq hqz hqm hb
      go_wp2_with fail
      go_roundw
      case rel => exact ⟨k + 1, max m (m2 + 1), rest, by (first | (rw [← max_if]; congr 1; done) | (congr 1; split <;> omega)), by omega, by go_num, hRR.out, by have := hSz.out; omega, by rw [hM.out]; have h1 := hQM.out; rw [hHB.out, hHE.out] at h1; simp only [htS, htE] at h1 ⊢; omega, hB5.out⟩
      case measure => simp [intOf]; omega
     | cons h' kids' rest' =>
      simp only [Exs.len, Exs.sz] at hj hqz
      obtain ⟨⟨⟨t', y0, _⟩, y1, y2, y3, y4, y5⟩, ⟨u, y6, hu⟩, hR'⟩ := hq.cons
      have x0 := cell_on y0 hb
      have x1 := cell_on y1 hb
      have x2 := cell_on y2 hb
      have x3 := cell_on y3 hb
      have x4 := cell_on y4 hb
      have x5 := cell_on y5 hb
      have x6 := cell_on y6 hb
      have hkj : j < x.len := by omega
      have hxa2 : xa = some ⟨xb, xo, none⟩ := by rcases hxa with q | q; (· omega); (· exact q)
      subst hxa2
      obtain ⟨ua, uc, rfl⟩ := hu.shape'
      have hal := hid ((Below.refl wr.heap.size wr).alloc (Nat.le_refl _) (.cells #[.int .i64 t', .int .u8 h'.kind, .int .u32 h'.word, .int .u8 h'.type, .string h'.name, .string h'.sign, .slice ua kids'.len uc] 134))
      have hCall := hid (height33 _ t' h' kids' (.slice ua kids'.len uc) (wr.alloc (.cells #[.int .i64 t', .int .u8 h'.kind, .int .u32 h'.word, .int .u8 h'.type, .string h'.name, .string h'.sign, .slice ua kids'.len uc] 134)) (Nat.lt_succ_self _) (by have := hS.out; have := hSz.out; omega) (hu.mono (hb.trans (hal.out.mono hb.size))))
      have hRR' := hid (And.intro hR' hqz)
      have hkb3 : htE kids' ≤ kids'.sz := htE_le kids'
      clear hxa hq hu hR' hb y0 y1 y2 y3 y4 y5 y6 hqm
      go_wp2_with fail
      refine hCall.out.mono ?_
      rintro e w6 ⟨rfl, hb6⟩
      have hB6 := hid (hB5.out.trans ((hal.out.trans (hb6.mono (by simp))).mono hB5.out.size))
      clear hb6 hCall x0 x1 x2 x3 x4 x5 x6 hal
      obtain ⟨H', hH'⟩ : ∃ q, q = htE kids' + 1 := ⟨_, rfl⟩
      rw [← hH']
      have hH2 := hid hH'
      clear hH' hkb3 hqz
      go_wp2_with fail
      go_roundw
      case rel => exact ⟨j + 1, max m2 H', rest', by rw [max_if], by omega, by go_num, hRR'.out.1, by have := hRR'.out.2; omega, by rw [hQM.out, hH2.out]; simp only [htE]; omega, hB6.out⟩
      case measure => simp [intOf]; omega
set_option maxHeartbeats 8000000 in
theorem many15 : ∀ (n : Nat) (l : Sts) (v : Value) (w : World), l.sz < n → l.sz ≤ 100000000 → SlS w false none l v →
  Calls Tryz.prog 107 #[v] w fun e w' => e = .returned (.int .i64 ((Sts.sz l : Nat) : Int)) ∧ Below w.heap.size w w' := by
 intro n
 induction n with
 | zero => intro l v w hn; omega
 | succ n ih =>
  have IH := hid ih
  clear ih
  intro l v w hn hs hv
  obtain ⟨ka, b, off, c, rfl, hka, hin⟩ := hv
  have hl := l.len_le
  have hh : Sts.sz l ≤ l.sz := Nat.le_refl _
  have hS := hid (And.intro hn hs)
  have hI := hid hin
  have hkb : l.len ≤ 100000000 := by omega
  have hhb : Sts.sz l ≤ 100000000 := by omega
  obtain ⟨len, hlen⟩ : ∃ m, m = l.len := ⟨_, rfl⟩
  obtain ⟨H, hH⟩ : ∃ m, m = Sts.sz l := ⟨_, rfl⟩
  rw [← hlen] at hka hl hkb ⊢
  rw [← hH] at hhb ⊢
  have hLen := hid hlen
  have hHt := hid hH
  clear hn hs hin hlen hH hh hl
  go_enter Tryz.func107, Tryz.ntmps107
  go_wp2_with fail
  go_loopw [3, 10] (fun z i wr => ∃ (k m : Nat) (r : Sts), z = .int .i64 m ∧ k + r.len = len ∧ i = .int .i64 k ∧ StsIn w false none r b off k ∧ r.sz ≤ l.sz ∧ H = m + r.sz ∧ Below w.heap.size w wr) (fun _ i _ => len - (intOf i).toNat)
  case atStart => exact ⟨0, 0, l, rfl, by have := hLen.out; omega, rfl, hI.out, Nat.le_refl _, by rw [hHt.out]; simp, Below.refl _ _⟩
  case round =>
   clear hI
   obtain ⟨k, m, r, rfl, hk, rfl, hr, hz, hm, hb⟩ := hrel
   obtain ⟨wo, rfl⟩ : ∃ wo : World, wo = wr := ⟨_, rfl⟩
   have hB := hid hb
   have hM := hid hm
   cases r with
   | nil =>
    simp only [Sts.len, Nat.add_zero] at hk
    subst k
    have hm2 : Hid (H = m) := hid (by rw [hm]; simp [Sts.sz])
    have hmb : m ≤ 100000000 := by have := hm2.out; omega
    clear hr hz hm hb
    go_wp2_with fail
    go_ret
    exact ⟨ret_int (by rw [hm2.out]), hB.out⟩
   | cons h x body els rest =>
    simp only [Sts.len, Sts.sz] at hk hz
    obtain ⟨⟨⟨t, y0, _⟩, y1, y2, y3, y4⟩, ⟨vx, y5, hx⟩, ⟨vb, y6, hbd⟩, ⟨ve, y7, he⟩, hR⟩ := hr.cons
    have x0 := cell_on y0 hb
    have x1 := cell_on y1 hb
    have x2 := cell_on y2 hb
    have x3 := cell_on y3 hb
    have x4 := cell_on y4 hb
    have x5 := cell_on y5 hb
    have x6 := cell_on y6 hb
    have x7 := cell_on y7 hb
    have hkk : k < len := by omega
    have hka2 : ka = some ⟨b, off, none⟩ := by rcases hka with q | q; (· omega); (· exact q.1)
    subst hka2
    obtain ⟨xa, xc, rfl⟩ := hx.shape'
    obtain ⟨ba, bc, rfl⟩ := hbd.shape'
    obtain ⟨ea, ec, rfl⟩ := he.shape'
    obtain ⟨xb, xo, hxa, hxin⟩ : ∃ xb xo, (x.len = 0 ∨ xa = some ⟨xb, xo, none⟩) ∧ ExsIn w false none x xb xo 0 := by
     obtain ⟨ka', kb, koff, kcap, hv, y2, y3⟩ := hx
     cases hv
     exact ⟨kb, koff, y2.imp And.left And.left, y3⟩
    have hxl := x.len_le
    have hxlen : x.len ≤ 100000000 := by have := hS.out; omega
    obtain ⟨a0, a1, a2, a3, a4⟩ := h
    have hXI := hid hxin
    have hSz := hid hz
    have hRR := hid hR
    have hXv := hid hx
    have hcb := hid (fun (w2 : World) (h2 : Below w.heap.size w w2) => IH.out body (.slice ba body.len bc) w2 (by have := hS.out; have := hSz.out; omega) (by have := hS.out; have := hSz.out; omega) (hbd.mono h2))
    have hce := hid (fun (w2 : World) (h2 : Below w.heap.size w w2) => IH.out els (.slice ea els.len ec) w2 (by have := hS.out; have := hSz.out; omega) (by have := hS.out; have := hSz.out; omega) (he.mono h2))
    have hbb : Sts.sz body ≤ body.sz := Nat.le_refl _
    have heb : Sts.sz els ≤ els.sz := Nat.le_refl _
    have hbb2 : Sts.sz body ≤ 100000000 := by have := hS.out; omega
    have heb2 : Sts.sz els ≤ 100000000 := by have := hS.out; omega
    obtain ⟨Hb, hHb⟩ : ∃ m, m = Sts.sz body := ⟨_, rfl⟩
    obtain ⟨He, hHe⟩ : ∃ m, m = Sts.sz els := ⟨_, rfl⟩
    rw [← hHb] at hbb hbb2
    rw [← hHe] at heb heb2
    have hHB := hid hHb
    have hHE := hid hHe
    rw [← hHb] at hcb
    rw [← hHe] at hce
    have hS1 := hid (SB1.new hb #[.int .i64 t, .int .u8 a1, .string a2, .int .u8 a3, .string a4, .slice xa x.len xc, .slice ba body.len bc, .slice ea els.len ec] 109)
    have hmb : m + (x.sz + Hb + He + 1) ≤ 100000000 := by simp only [Sts.sz] at hm; omega
    clear hka hr hx hbd he hR hb y0 y1 y2 y3 y4 y5 y6 y7 hxin hxl hm hHb hHe hz hbb heb hbb2 heb2
    go_wp2_with fail
    clear x0 x1 x2 x3 x4 x5 x6 x7
    refine wp_region_held_drew (S := (SB1 w wo.heap.size #[.int .i64 t, .int .u8 a1, .string a2, .int .u8 a3, .string a4, .slice xa x.len xc, .slice ba body.len bc, .slice ea els.len ec] 109)) (by kernel_rfl) hS1.out.drew (fun hHeld => ?_)
    clear hS1
    refine tk 0 ?_ (hy := ?_) (h := ?_)
    rotate_left
    ·intro w' hSw; go_simp; (try with_reducible rfl)
    try simp only [tpa, tpb, tpc, tpd, tpe]
    refine tk 1 ?_ (hy := ?_) (h := ?_)
    rotate_left
    ·intro w' hSw; go_simp; (try with_reducible rfl)
    try simp only [tpa, tpb, tpc, tpd, tpe]
    refine tk 2 ?_ (hy := ?_) (h := ?_)
    rotate_left
    ·intro w' hSw; have c5 := hSw.box.cell 5; have c6 := hSw.box.cell 6; have c7 := hSw.box.cell 7; simp at c5 c6 c7; go_simp; (try with_reducible rfl)
    try simp only [tpa, tpb, tpc, tpd, tpe]
    refine tk 5 ?_ (hy := ?_) (h := ?_)
    rotate_left
    ·intro w' hSw; go_simp; (try with_reducible rfl)
    try simp only [tpa, tpb, tpc, tpd, tpe]
    refine tk 6 ?_ (hy := ?_) (h := ?_)
    rotate_left
    ·intro w' hSw; have c5 := hSw.box.cell 5; have c6 := hSw.box.cell 6; have c7 := hSw.box.cell 7; simp at c5 c6 c7; go_simp; (try with_reducible rfl)
    try simp only [tpa, tpb, tpc, tpd, tpe]
    refine tr 3 (h := fun K hK => ?_)
    go_simp
    go_at_call 107
    refine (hcb.out _ hHeld.below).mono ?_
    rintro e w2 ⟨rfl, hb2⟩
    have hk := hHeld.on hb2
    clear hHeld hb2
    go_wp2_with fail
    refine hK.out _ _ hk (fun hHeld => ?_)
    clear hK K hk
    try simp only [tpa, tpb, tpc, tpd, tpe]
    refine tk 4 ?_ (hy := ?_) (h := ?_)
    rotate_left
    ·intro w' hSw; go_simp; (try with_reducible rfl)
    try simp only [tpa, tpb, tpc, tpd, tpe]
    refine tr 7 (h := fun K hK => ?_)
    go_simp
    go_at_call 107
    refine (hce.out _ hHeld.below).mono ?_
    rintro e w2 ⟨rfl, hb2⟩
    have hk := hHeld.on hb2
    clear hHeld hb2
    go_wp2_with fail
    refine hK.out _ _ hk (fun hHeld => ?_)
    clear hK K hk
    try simp only [tpa, tpb, tpc, tpd, tpe]
    refine tk 8 ?_ (hy := ?_) (h := ?_)
    rotate_left
    ·intro w' hSw; go_simp; (try with_reducible rfl)
    try simp only [tpa, tpb, tpc, tpd, tpe]
    refine tk 9 ?_ (hy := ?_) (h := ?_)
    rotate_left
    ·intro w' hSw; go_simp; (try with_reducible rfl)
    try simp only [tpa, tpb, tpc, tpd, tpe]
    refine tk 10 ?_ (hy := ?_) (h := ?_)
    rotate_left
    ·intro w' hSw; go_simp; (try with_reducible rfl)
    try simp only [tpa, tpb, tpc, tpd, tpe]
    refine wpAnyH_done (by kernel_rfl) ?_ _
    have hX := hid hHeld
    rw [show IntKind.i64.wrap (1 + (Hb : Int)) = 1 + (Hb : Int) from IntWalk.i64_in _ (by omega), show IntKind.i64.wrap (1 + (Hb : Int) + (He : Int)) = 1 + (Hb : Int) + (He : Int) from IntWalk.i64_in _ (by omega), show IntKind.i64.wrap ((m : Int) + (1 + (Hb : Int) + (He : Int))) = (m : Int) + (1 + (Hb : Int) + (He : Int)) from IntWalk.i64_in _ (by omega)]
    have p5 := hHeld.box.cell 5
    simp at p5
    clear hHeld
    go_wp2_with fail
    clear p5
    go_loopw [3, 27] (fun z i wr => ∃ (j m2 : Nat) (q : Exs), z = .int .i64 m2 ∧ j + q.len = x.len ∧ i = .int .i64 j ∧ ExsIn w false none q xb xo j ∧ q.sz ≤ x.sz ∧ m + (x.sz + Hb + He + 1) = m2 + q.sz ∧ Below w.heap.size w wr) (fun _ i _ => x.len - (intOf i).toNat)
    case atStart => exact ⟨0, m + (1 + Hb + He), x, by first | go_num | (congr 1; omega), by omega, rfl, hXI.out, Nat.le_refl _, by omega, hX.out.below⟩
    case round =>
     clear hXI hX
     obtain ⟨j, m2, q, rfl, hj, rfl, hq, hqz, hqm, hb⟩ := hrel
     have hB5 := hid hb
     have hQM := hid hqm
     cases q with
     | nil =>
      simp only [Exs.len, Nat.add_zero] at hj
      subst j
      clear hq hqz hqm hb
      go_wp2_with fail
      go_roundw
      case rel => exact ⟨k + 1, m2, rest, rfl, by omega, by go_num, hRR.out, by have := hSz.out; omega, by rw [hM.out]; have h1 := hQM.out; rw [hHB.out, hHE.out] at h1; simp only [Sts.sz, Exs.sz] at h1 ⊢; omega, hB5.out⟩
      case measure => simp [intOf]; omega
     | cons h' kids' rest' =>
      simp only [Exs.len, Exs.sz] at hj hqz
      obtain ⟨⟨⟨t', y0, _⟩, y1, y2, y3, y4, y5⟩, ⟨u, y6, hu⟩, hR'⟩ := hq.cons
      have x0 := cell_on y0 hb
      have x1 := cell_on y1 hb
      have x2 := cell_on y2 hb
      have x3 := cell_on y3 hb
      have x4 := cell_on y4 hb
      have x5 := cell_on y5 hb
      have x6 := cell_on y6 hb
      have hkj : j < x.len := by omega
      have hxa2 : xa = some ⟨xb, xo, none⟩ := by rcases hxa with q | q; (· omega); (· exact q)
      subst hxa2
      obtain ⟨ua, uc, rfl⟩ := hu.shape'
      have hal := hid ((Below.refl wr.heap.size wr).alloc (Nat.le_refl _) (.cells #[.int .i64 t', .int .u8 h'.kind, .int .u32 h'.word, .int .u8 h'.type, .string h'.name, .string h'.sign, .slice ua kids'.len uc] 134))
      have hCall := hid (parts34 _ t' h' kids' (.slice ua kids'.len uc) (wr.alloc (.cells #[.int .i64 t', .int .u8 h'.kind, .int .u32 h'.word, .int .u8 h'.type, .string h'.name, .string h'.sign, .slice ua kids'.len uc] 134)) (Nat.lt_succ_self _) (by have := hS.out; have := hSz.out; omega) (hu.mono (hb.trans (hal.out.mono hb.size))))
      have hRR' := hid (And.intro hR' hqz)
      clear hxa hq hu hR' hb y0 y1 y2 y3 y4 y5 y6 hqm
      go_wp2_with fail
      refine hCall.out.mono ?_
      rintro e w6 ⟨rfl, hb6⟩
      have hB6 := hid (hB5.out.trans ((hal.out.trans (hb6.mono (by simp))).mono hB5.out.size))
      clear hb6 hCall x0 x1 x2 x3 x4 x5 x6 hal
      obtain ⟨H', hH'⟩ : ∃ q, q = kids'.sz + 1 := ⟨_, rfl⟩
      rw [← hH']
      have hm3 : m2 + H' ≤ 100000000 := by have := hQM.out; simp only [Exs.sz] at this; omega
      have hH2 := hid hH'
      clear hH' hqz
      go_wp2_with fail
      go_roundw
      case rel => exact ⟨j + 1, m2 + H', rest', by go_num, by omega, by go_num, hRR'.out.1, by have := hRR'.out.2; omega, by rw [hQM.out, hH2.out]; simp only [Exs.sz]; omega, hB6.out⟩
      case measure => simp [intOf]; omega
open Go.Shelf
end
end Go.Proofs.YtlabadkfkbenoaaGreatDoor
