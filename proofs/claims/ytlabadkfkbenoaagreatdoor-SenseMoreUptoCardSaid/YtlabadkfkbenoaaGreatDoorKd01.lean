/- Walks and plain laws, merged: LarA LarL LarP Yb CalP LarC CalS Yt ArgA. No condition. -/
import Derived.Test.YtlabadkfkbenoaaGreatDoorKm25
import Derived.Deep.RegionHeld3
namespace Go.Proofs.YtlabadkfkbenoaaGreatDoor
open Go.RowKit
set_option linter.unusedVariables false
set_option linter.unusedSimpArgs false
set_option maxRecDepth 100000
set_option maxHeartbeats 64000000
section
open Go.Shelf
def LessP (n m : Int) : Prop := m ≤ n ∧ (0 ≤ m ∨ m = n)
theorem LessP.refl (n : Int) : LessP n n := ⟨by omega, .inr rfl⟩
theorem LessP.trans {a b c : Int} (h : LessP a b) (k : LessP b c) : LessP a c := by
 obtain ⟨h1, h2⟩ := h
 obtain ⟨k1, k2⟩ := k
 exact ⟨by omega, by omega⟩
def H62 (n : Nat) : Prop := ∀ (l : Exs) (q : Int) (v : Value) (w : World), l.sz < n → l.sz ≤ 100000000 → -1000000000 ≤ q → q ≤ 1000000000 → SlE w false none l v →
 Calls Tryz.prog 62 #[v, .int .i64 q] w fun e w' => (∃ m, e = .returned (.int .i64 m) ∧ LessP q m) ∧ Below w.heap.size w w'
theorem less62 : ∀ n, H62 n := by
 intro n
 induction n with
 | zero => intro l q v w hn; omega
 | succ n ih =>
  have IH := hid ih
  clear ih
  intro kids q v w hn hs hq1 hq2 hv
  obtain ⟨ka, b, off, c, rfl, hka, hin⟩ := hv
  have hl := kids.len_le
  have hS := hid (And.intro hn hs)
  have hQ := hid (And.intro hq1 hq2)
  have hI := hid hin
  have hkb : kids.len ≤ 100000000 := by omega
  obtain ⟨len, hlen⟩ : ∃ m, m = kids.len := ⟨_, rfl⟩
  rw [← hlen] at hka hl hkb ⊢
  have hLen := hid hlen
  clear hn hs hin hlen hl hq1 hq2
  go_enter Tryz.func62, Tryz.ntmps62
  go_wp2_with fail
  go_loopw [1, 5] (fun z i wr => ∃ (k : Nat) (m : Int) (r : Exs), z = .int .i64 m ∧ k + r.len = len ∧ i = .int .i64 k ∧ ExsIn w false none r b off k ∧ r.sz ≤ kids.sz ∧ LessP q m ∧ Below w.heap.size w wr) (fun _ i _ => len - (intOf i).toNat)
  case atStart => exact ⟨0, q, kids, rfl, by have := hLen.out; omega, rfl, hI.out, Nat.le_refl _, LessP.refl _, Below.refl _ _⟩
  case round =>
   clear hI
   obtain ⟨k, m, r, rfl, hk, rfl, hr, hz, hm, hb⟩ := hrel
   have hB := hid hb
   have hM := hid hm
   cases r with
   | nil =>
    simp only [Exs.len, Nat.add_zero] at hk
    subst k
    have hmb := hm.1
    clear hr hz hm hb
    go_wp2_with fail
    go_ret
    exact ⟨⟨m, rfl, hM.out⟩, hB.out⟩
   | cons h' kids' rest =>
    simp only [Exs.len, Exs.sz] at hk hz
    have hkk : k < len := by omega
    by_cases hpos : 0 < m
    ·obtain ⟨⟨⟨t', y0, _⟩, y1, y2, y3, y4, y5⟩, ⟨u, y6, hu⟩, hR⟩ := hr.cons
     have x6 := cell_on y6 hb
     have hka2 : ka = some ⟨b, off, none⟩ := by rcases hka with q | q; (· omega); (· exact q.1)
     subst hka2
     obtain ⟨ua, uc, rfl⟩ := hu.shape'
     have hq := hQ.out
     have hm1 := hm.1
     have hCall := hid (IH.out kids' (m - 1) (.slice ua kids'.len uc) wr (by have := hS.out; omega) (by have := hS.out; omega) (by omega) (by omega) (hu.mono hb))
     have hRR := hid (And.intro hR hz)
     have hpos2 : ¬ m ≤ 0 := by omega
     have hwr : IntKind.i64.wrap (m - 1) = m - 1 := IntWalk.i64_in _ (by omega)
     have hwr2 : wrap64 (m - 1) = m - 1 := by simp only [wrap64]; omega
     clear hka hr hu hR hz hb y0 y1 y2 y3 y4 y5 y6 hm hq
     go_wp2_with fail
     refine hCall.out.mono ?_
     rintro e w2 ⟨⟨m2, rfl, hm2⟩, hb2⟩
     have hB2 := hid (hB.out.trans (hb2.mono hB.out.size))
     have hL2 := hid (hM.out.trans (LessP.trans (show LessP m (m - 1) from ⟨by omega, by omega⟩) hm2))
     clear hb2 hCall x6 hm2
     go_wp2_with fail
     go_roundw
     case rel => exact ⟨k + 1, m2, rest, rfl, by omega, by go_num, hRR.out.1, by have := hRR.out.2; omega, hL2.out, hB2.out⟩
     case measure => simp [intOf]; omega
    ·clear hr hz hm hb
     go_wp2_with fail
     go_ret
     exact ⟨⟨m, rfl, hM.out⟩, hB.out⟩
def H33 (n : Nat) : Prop := ∀ (l : Sts) (q : Int) (v : Value) (w : World), l.sz < n → l.sz ≤ 100000000 → -1000000000 ≤ q → q ≤ 1000000000 → SlS w false none l v →
 Calls Tryz.prog 33 #[v, .int .i64 q] w fun e w' => (∃ m, e = .returned (.int .i64 m) ∧ LessP q m) ∧ Below w.heap.size w w'
theorem fewer33 : ∀ n, H33 n := by
 intro n
 induction n with
 | zero => intro l q v w hn; omega
 | succ n ih =>
  have IH := hid ih
  clear ih
  intro l q v w hn hs hq1 hq2 hv
  obtain ⟨ka, b, off, c, rfl, hka, hin⟩ := hv
  have hl := l.len_le
  have hS := hid (And.intro hn hs)
  have hQ := hid (And.intro hq1 hq2)
  have hI := hid hin
  have hkb : l.len ≤ 100000000 := by omega
  obtain ⟨len, hlen⟩ : ∃ m, m = l.len := ⟨_, rfl⟩
  rw [← hlen] at hka hl hkb ⊢
  have hLen := hid hlen
  clear hn hs hin hlen hl hq1 hq2
  go_enter Tryz.func33, Tryz.ntmps33
  go_wp2_with fail
  go_loopw [1, 5] (fun z i wr => ∃ (k : Nat) (m : Int) (r : Sts), z = .int .i64 m ∧ k + r.len = len ∧ i = .int .i64 k ∧ StsIn w false none r b off k ∧ r.sz ≤ l.sz ∧ LessP q m ∧ Below w.heap.size w wr) (fun _ i _ => len - (intOf i).toNat)
  case atStart => exact ⟨0, q, l, rfl, by have := hLen.out; omega, rfl, hI.out, Nat.le_refl _, LessP.refl _, Below.refl _ _⟩
  case round =>
   clear hI
   obtain ⟨k, m, r, rfl, hk, rfl, hr, hz, hm, hb⟩ := hrel
   have hB := hid hb
   have hM := hid hm
   cases r with
   | nil =>
    simp only [Sts.len, Nat.add_zero] at hk
    subst k
    have hmb := hm.1
    clear hr hz hm hb
    go_wp2_with fail
    go_ret
    exact ⟨⟨m, rfl, hM.out⟩, hB.out⟩
   | cons h' x' b' e' rest =>
    simp only [Sts.len, Sts.sz] at hk hz
    have hkk : k < len := by omega
    by_cases hpos : 0 < m
    ·obtain ⟨-, ⟨u5, y5, hu5⟩, ⟨u6, y6, hu6⟩, ⟨u7, y7, hu7⟩, hR⟩ := hr.cons
     have x5 := cell_on y5 hb
     have hka2 : ka = some ⟨b, off, none⟩ := by rcases hka with q | q; (· omega); (· exact q.1)
     subst hka2
     obtain ⟨a5, c5, rfl⟩ := hu5.shape'
     obtain ⟨a6, c6, rfl⟩ := hu6.shape'
     obtain ⟨a7, c7, rfl⟩ := hu7.shape'
     have hq := hQ.out
     have hm1 := hm.1
     have hCall := hid (less62 (x'.sz + 1) x' (m - 1) (.slice a5 x'.len c5) wr (by omega) (by have := hS.out; omega) (by omega) (by omega) (hu5.mono hb))
     have H6 := hid hu6
     have H7 := hid hu7
     have Y6 := hid y6
     have Y7 := hid y7
     have hRR := hid (And.intro hR hz)
     have hwr : IntKind.i64.wrap (m - 1) = m - 1 := IntWalk.i64_in _ (by omega)
     have hwr2 : wrap64 (m - 1) = m - 1 := by simp only [wrap64]; omega
     clear hka hr hu5 hu6 hu7 hR hz hb y5 y6 y7 hm hq
     go_wp2_with fail
     refine hCall.out.mono ?_
     rintro e w2 ⟨⟨m2, rfl, hm2⟩, hb2⟩
     have hB2 := hid (hB.out.trans (hb2.mono hB.out.size))
     have hL2 := hid (hM.out.trans (LessP.trans (show LessP m (m - 1) from ⟨by omega, by omega⟩) hm2))
     have x6 := cell_on Y6.out hB2.out
     have hc6 := hid (IH.out b' m2 (.slice a6 b'.len c6) w2 (by have := hS.out; have := hRR.out.2; omega) (by have := hS.out; have := hRR.out.2; omega) (by have h9 := hL2.out; have h8 := hQ.out; unfold LessP at h9; omega) (by have := hL2.out.1; have := hQ.out; omega) (H6.out.mono hB2.out))
     clear hb2 hCall x5 hm2
     go_wp2_with fail
     refine hc6.out.mono ?_
     rintro e w3 ⟨⟨m3, rfl, hm3⟩, hb3⟩
     have hB3 := hid (hB2.out.trans (hb3.mono hB2.out.size))
     have hL3 := hid (hL2.out.trans hm3)
     have x7 := cell_on Y7.out hB3.out
     have hc7 := hid (IH.out e' m3 (.slice a7 e'.len c7) w3 (by have := hS.out; have := hRR.out.2; omega) (by have := hS.out; have := hRR.out.2; omega) (by have h9 := hL3.out; have h8 := hQ.out; unfold LessP at h9; omega) (by have := hL3.out.1; have := hQ.out; omega) (H7.out.mono hB3.out))
     clear hb3 hc6 x6 hm3
     go_wp2_with fail
     refine hc7.out.mono ?_
     rintro e w4 ⟨⟨m4, rfl, hm4⟩, hb4⟩
     have hB4 := hid (hB3.out.trans (hb4.mono hB3.out.size))
     have hL4 := hid (hL3.out.trans hm4)
     clear hb4 hc7 x7 hm4
     go_wp2_with fail
     go_roundw
     case rel => exact ⟨k + 1, m4, rest, rfl, by omega, by go_num, hRR.out.1, by have := hRR.out.2; omega, hL4.out, hB4.out⟩
     case measure => simp [intOf]; omega
    ·clear hr hz hm hb
     go_wp2_with fail
     go_ret
     exact ⟨⟨m, rfl, hM.out⟩, hB.out⟩
end
section
open Go.Shelf
def IsB (e : Ending) : Prop := ∃ b, e = .returned (.bool b)
theorem isB (b : Bool) : IsB (.returned (.bool b)) := ⟨b, rfl⟩
theorem large9 (u : UT) (v : Value) (w : World) (ok : u.Ok) (hv : UIn w false none u v) :
  Calls Tryz.prog 9 #[v] w fun e w' => IsB e ∧ Below w.heap.size w w' := by
 obtain ⟨vg, vh, vf, rfl, hg, hh, hf⟩ := hv
 obtain ⟨ga, gb, go, gc, rfl, hga, hgi⟩ := SlR.open hg
 obtain ⟨ha, hbk, ho, hc, rfl, hha, hhi⟩ := SlR.open hh
 obtain ⟨fa, fb, fo, fc, rfl, hfa, hfi⟩ := SlR.open hf
 have hG := hid hgi
 have hH := hid hhi
 have hF := hid hfi
 have OK := hid ok
 have g1 := ok.g
 have g2 := ok.h
 have g3 := ok.f
 obtain ⟨mg, hmg⟩ : ∃ m, m = u.gs.length := ⟨_, rfl⟩
 obtain ⟨mh, hmh⟩ : ∃ m, m = u.hs.length := ⟨_, rfl⟩
 obtain ⟨mf, hmf⟩ : ∃ m, m = u.fs.length := ⟨_, rfl⟩
 rw [← hmg] at hga g1 ⊢
 rw [← hmh] at hha g2 ⊢
 rw [← hmf] at hfa g3 ⊢
 have hMG := hid hmg
 have hMH := hid hmh
 have hMF := hid hmf
 clear hg hh hf hgi hhi hfi ok hmg hmh hmf
 have hX0 := hid (SB1.new (Below.refl w.heap.size w) #[.slice ga mg gc, .slice ha mh hc, .slice fa mf fc] 26)
 clear hG hH
 go_enter Tryz.func9, Tryz.ntmps9
 go_wp2_with fail
 go_loopw [3, 4] (fun s i wr => ∃ (k : Nat) (m : Int), s = .int .i64 m ∧ -100000000 ≤ m ∧ m ≤ 20000 ∧ k ≤ mf ∧ i = .int .i64 k ∧ SB1 w w.heap.size #[.slice ga mg gc, .slice ha mh hc, .slice fa mf fc] 26 wr) (fun _ i _ => mf - (intOf i).toNat)
 case atStart => exact ⟨0, 20000, rfl, by omega, by omega, Nat.zero_le _, rfl, hX0.out⟩
 case round =>
  clear hX0
  obtain ⟨k, m, rfl, hm1, hm2, hk, rfl, hX⟩ := hrel
  have hX1 := hid hX
  have hb := hid hX.below
  have p0 := hX.box.cell 0
  have p1 := hX.box.cell 1
  have p2 := hX.box.cell 2
  simp at p0 p1 p2
  clear hX
  by_cases hlt : k < mf
  ·by_cases hpos : 0 < m
   ·have hlt' : k < u.fs.length := by have := hMF.out; omega
    obtain ⟨-, -, ⟨pv, y2, hpv⟩, -, -, ⟨bv, y5, hbv⟩⟩ := hF.out k hlt'
    have hbl := hid (OK.out.fb _ (List.getElem_mem hlt'))
    have hpl := OK.out.fp _ (List.getElem_mem hlt')
    have hka2 : fa = some ⟨fb, fo, none⟩ := by rcases hfa with q | q; (· omega); (· exact q)
    subst hka2
    generalize u.fs[k]'hlt' = a at *
    obtain ⟨at0, nm, ps, ty, op, bd⟩ := a
    obtain ⟨ba, bc, rfl⟩ := hbv.shape'
    obtain ⟨pa, pc, rfl⟩ := hpv.shape'
    simp only [] at y5 y2 hpl hpv hbv
    have HBL := hid (show bd.sz ≤ 100000000 from hbl.out)
    have HBV := hid hbv
    have Y5 := hid y5
    have Y2 := hid y2
    have hwr : IntKind.i64.wrap (m - ps.length) = m - ps.length := IntWalk.i64_in _ (by omega)
    have hwr2 : wrap64 (m - ps.length) = m - ps.length := by simp only [wrap64]; omega
    clear hfa y5 y2 hbv hpv hbl p0 p1
    go_wp2_with fail
    have hX1d := hid (hX1.out.on (Below.refl _ _).drew)
    refine wp_region_held_drew (S := (fun w9 => SB1 w w.heap.size #[.slice ga mg gc, .slice ha mh hc, .slice (some ⟨fb, fo, none⟩) mf fc] 26 w9)) (by kernel_rfl) hX1d.out (fun hHeld => ?_)
    generalize wr.drew = w3 at hX1d hHeld ⊢
    clear p2
    refine tk 0 ?_ (hy := by intro w' hSw; have q2 := hSw.box.cell 2; have x5 := cell_on Y5.out hSw.below; have x2 := cell_on Y2.out hSw.below; simp at q2; go_simp; (try with_reducible rfl))
    refine tk 1 ?_ (hy := by intro w' hSw; have q2 := hSw.box.cell 2; have x5 := cell_on Y5.out hSw.below; have x2 := cell_on Y2.out hSw.below; simp at q2; go_simp; (try with_reducible rfl))
    refine tk 2 ?_ (hy := by intro w' hSw; have q2 := hSw.box.cell 2; have x5 := cell_on Y5.out hSw.below; have x2 := cell_on Y2.out hSw.below; simp at q2; go_simp; (try with_reducible rfl))
    refine tk 3 ?_ (hy := by intro w' hSw; have q2 := hSw.box.cell 2; have x5 := cell_on Y5.out hSw.below; have x2 := cell_on Y2.out hSw.below; simp at q2; go_simp; (try with_reducible rfl))
    refine tk 4 ?_ (hy := by intro w' hSw; have q2 := hSw.box.cell 2; have x5 := cell_on Y5.out hSw.below; have x2 := cell_on Y2.out hSw.below; simp at q2; go_simp; (try with_reducible rfl))
    refine tk 5 ?_ (hy := by intro w' hSw; have q2 := hSw.box.cell 2; have x5 := cell_on Y5.out hSw.below; have x2 := cell_on Y2.out hSw.below; simp at q2; go_simp; (try with_reducible rfl))
    refine tk 6 ?_ (hy := by intro w' hSw; have q2 := hSw.box.cell 2; have x5 := cell_on Y5.out hSw.below; have x2 := cell_on Y2.out hSw.below; simp at q2; go_simp; (try with_reducible rfl))
    refine tk 7 ?_ (hy := by intro w' hSw; have q2 := hSw.box.cell 2; have x5 := cell_on Y5.out hSw.below; have x2 := cell_on Y2.out hSw.below; simp at q2; go_simp; (try with_reducible rfl))
    refine tk 8 ?_ (hy := by intro w' hSw; have q2 := hSw.box.cell 2; have x5 := cell_on Y5.out hSw.below; have x2 := cell_on Y2.out hSw.below; simp at q2; go_simp; (try with_reducible rfl))
    refine tk 9 ?_ (hy := by intro w' hSw; have q2 := hSw.box.cell 2; have x5 := cell_on Y5.out hSw.below; have x2 := cell_on Y2.out hSw.below; simp at q2; go_simp; (try with_reducible rfl))
    refine tk 10 ?_ (hy := by intro w' hSw; have q2 := hSw.box.cell 2; have x5 := cell_on Y5.out hSw.below; have x2 := cell_on Y2.out hSw.below; simp at q2; go_simp; (try with_reducible rfl))
    refine tk 11 ?_ (hy := by intro w' hSw; have q2 := hSw.box.cell 2; have x5 := cell_on Y5.out hSw.below; have x2 := cell_on Y2.out hSw.below; simp at q2; go_simp; (try with_reducible rfl))
    refine tk 12 ?_ (hy := by intro w' hSw; have q2 := hSw.box.cell 2; have x5 := cell_on Y5.out hSw.below; have x2 := cell_on Y2.out hSw.below; simp at q2; go_simp; (try with_reducible rfl))
    refine tk 13 ?_ (hy := by intro w' hSw; have q2 := hSw.box.cell 2; have x5 := cell_on Y5.out hSw.below; have x2 := cell_on Y2.out hSw.below; simp at q2; go_simp; (try with_reducible rfl))
    refine tk 14 ?_ (hy := by intro w' hSw; have q2 := hSw.box.cell 2; have x5 := cell_on Y5.out hSw.below; have x2 := cell_on Y2.out hSw.below; simp at q2; go_simp; (try with_reducible rfl))
    refine tr 15 fun K hK => ?_
    go_simp
    go_at_call 33
    refine (fewer33 (bd.sz + 1) bd (m - ps.length) (.slice ba bd.len bc) _ (Nat.lt_succ_self _) HBL.out (by omega) (by omega) (HBV.out.mono hHeld.below)).mono ?_
    rintro e w2 ⟨⟨m2, rfl, hm2⟩, hb2⟩
    have hk := hHeld.on hb2
    have HX2 := hid hk
    have HM2 := hid hm2
    clear hHeld hm2 hb2
    go_wp2_with fail
    refine hK.out _ _ hk (fun hHeld => ?_)
    clear hK K hk
    try simp only [tpa, tpb, tpc, tpd, tpe]
    refine tk 16 ?_
    refine td ?_
    clear hHeld
    have hm9 := HM2.out
    unfold LessP at hm9
    go_wp2_with fail
    go_roundw
    case rel => exact ⟨k + 1, m2, rfl, by omega, by omega, by omega, by go_num, HX2.out⟩
    case measure => simp [intOf]; omega
   ·go_wp2_with fail
    go_ret
    exact ⟨isB _, hX1.out.below⟩
  ·go_wp2_with fail
   go_ret
   exact ⟨isB _, hX1.out.below⟩
end
section
open Go.Shelf
def pickV (n : Int) : Int := if n.tmod 4000 < 0 then n.tmod 4000 + 4000 else n.tmod 4000
theorem tmod_in (n : Int) : -4000 < n.tmod 4000 ∧ n.tmod 4000 < 4000 :=
 ⟨Int.lt_tmod_of_pos n (by decide), Int.tmod_lt_of_pos n (by decide)⟩
theorem pickV_in (n : Int) : 0 ≤ pickV n ∧ pickV n < 4000 := by
 have h := tmod_in n
 unfold pickV
 split <;> omega
theorem pick12 (n : Int) (w : World) : Calls Tryz.prog 12 #[.int .i64 n, .int .i64 4000] w fun e w' => e = .returned (.int .i64 (pickV n)) ∧ w' = w := by
 have h := tmod_in n
 by_cases hc : n.tmod 4000 < 0
 ·have hv : pickV n = n.tmod 4000 + 4000 := by unfold pickV; rw [if_pos hc]
  have hw : wrap64 (n.tmod 4000 + 4000) = n.tmod 4000 + 4000 := by simp only [wrap64]; omega
  rw [hv]
  go_enter Tryz.func12, Tryz.ntmps12
  go_wp2_with fail
  go_ret
  exact ⟨by first | rfl | rw [hw], rfl⟩
 ·have hv : pickV n = n.tmod 4000 := by unfold pickV; rw [if_neg hc]
  have hc2 : 0 ≤ n.tmod 4000 := by omega
  rw [hv]
  go_enter Tryz.func12, Tryz.ntmps12
  go_wp2_with fail
  go_ret
  exact ⟨rfl, rfl⟩
end
section
open Go.Shelf
theorem sameWords44 (l : List Int) (va vb : Value) (w : World) (ha : RowA w l va) (hb : RowA w l vb) (hl : l.length ≤ 9223372036854775807) : Calls Tryz.prog 44 #[va, vb] w fun e w' => e = .returned (.bool true) ∧ Below w.heap.size w w' := by
 obtain ⟨aa, ab, ao, ac, rfl, ha2, ha3⟩ := ha
 obtain ⟨ba, bb, bo, bc, rfl, hb2, hb3⟩ := hb
 have HA := hid ha3
 have HB := hid hb3
 obtain ⟨len, hlen⟩ : ∃ m, m = l.length := ⟨_, rfl⟩
 rw [← hlen] at ha2 hb2 hl ⊢
 have hLen := hid hlen
 clear ha3 hb3 hlen
 go_enter Tryz.func44, Tryz.ntmps44
 go_wp2_with fail
 go_loopw [4, 5] (fun z i wr => ∃ (k : Nat), z = .bool false ∧ k ≤ len ∧ i = .int .i64 k ∧ Below w.heap.size w wr) (fun _ i _ => len - (intOf i).toNat)
 case atStart => exact ⟨0, rfl, Nat.zero_le _, rfl, Below.refl _ _⟩
 case round =>
  obtain ⟨k, rfl, hk, rfl, hb⟩ := hrel
  have hBB := hid hb
  by_cases hkk : k < len
  ·have hk2 : k < l.length := by have := hLen.out; omega
   have hba := Below.refl wr.heap.size wr
   have x1 : wr.drew.cell? ⟨ab, ao + k, none⟩ = some (.int .u32 l[k]) := cell_on (cell_on (HA.out k hk2) hb) hba.drew
   have x2 : wr.drew.cell? ⟨bb, bo + k, none⟩ = some (.int .u32 l[k]) := cell_on (cell_on (HB.out k hk2) hb) hba.drew
   have e1 : aa = some ⟨ab, ao, none⟩ := by rcases ha2 with q | q; (· omega); (· exact q)
   have e2 : ba = some ⟨bb, bo, none⟩ := by rcases hb2 with q | q; (· omega); (· exact q)
   subst e1
   subst e2
   have hB2 := hid (hBB.out.trans (hba.drew.mono hBB.out.size))
   generalize l[k] = x at x1 x2
   clear hb hba ha2 hb2
   go_wp2_with fail
   go_region
   go_wp2_with fail
   go_roundw
   case rel => exact ⟨k + 1, rfl, by omega, by go_num, hB2.out⟩
   case measure => simp [intOf]; omega
  ·obtain rfl : k = len := by omega
   clear hb
   go_wp2_with fail
   go_ret
   exact ⟨rfl, hBB.out⟩
end
section
open Go.Shelf
theorem add_plain0 (b o j : Nat) : (⟨b, o, none⟩ : Addr).add j = ⟨b, o + j, none⟩ := by
 unfold Addr.add
 split
 ·rename_i h; subst h; rfl
 ·rfl
theorem own_low {w : World} {base base' : Nat} {e : TypeId} {size k : Nat} {v : Value} {ys : List Value} (h : w.ownsRow base e size v k ys) (hb : base' ≤ base) : w.ownsRow base' e size v k ys := by
 refine ⟨h.1, ?_⟩
 rcases h.2 with q | ⟨g, cap, cur, rfl, h1, h2, h3⟩
 ·exact .inl q
 ·exact .inr ⟨g, cap, cur, rfl, Nat.le_trans hb h1, h2, h3⟩
theorem hcells_at : ∀ (hd : HD) (xs : List Value) (i : Nat) (h : i < hd.length) (h2 : i < xs.length), xs.length = hd.length → (hcells hd xs)[i * 2]? = some (.string hd[i].1) ∧ (hcells hd xs)[i * 2 + 1]? = some xs[i]
 | a :: r, x :: xs, 0, _, _, _ => ⟨rfl, rfl⟩
 | a :: r, x :: xs, i + 1, h, h2, h3 => by
  have ih := hcells_at r xs i (by simpa using h) (by simpa using h2) (by simpa using h3)
  simp only [hcells, List.getElem_cons_succ]
  rw [show (i + 1) * 2 = i * 2 + 2 by omega]
  simpa using ih
theorem held20 (B : Nat) (u : UT) (vs : VS) (cs : CSg) (pl : List (ByteArray × Int)) (hd : HD) (xs : List Value) (X vb cb pb : Nat) (vg vh vf hv : Value) (w : World) (h : WoR w B u vs cs pl hd xs X vb cb pb vg vh vf hv) (hn : hd.length ≤ 1000) (hw : Hid (∀ a ∈ hd, a.2.length ≤ 4096)) :
  Calls Tryz.prog 20 #[.pointer (some ⟨X, 0, none⟩)] w fun e w' => ∃ v ys, e = .returned v ∧ Below w.heap.size w w' ∧ HeldR w' w.heap.size hd ys v := by
 have H := hid h
 have c := hid (made41_yes X pb w (by simpa using h.box.cell 6))
 obtain ⟨ha, hc, rfl, hg⟩ := own_shape2 h.held.row
 have p5 : w.cell? ⟨X, 5, none⟩ = some (.slice ha hd.length hc) := by simpa using h.box.cell 5
 obtain ⟨n, hn2⟩ : ∃ n, n = hd.length := ⟨_, rfl⟩
 rw [← hn2] at p5 hn hg
 have HN := hid hn2
 clear h hn2
 go_enter Tryz.func20, Tryz.ntmps20
 go_wp2_with fail
 refine c.out.mono ?_
 rintro e w2 ⟨rfl, rfl⟩
 go_wp2_with fail
 go_loopw [3, 14] (fun v i wr => ∃ (k : Nat) (v0 : Value) (ys : List Value), v0 = v ∧ i = .int .i64 k ∧ k ≤ n ∧ HeldR wr w2.heap.size (hd.take k) ys v0 ∧ Below w2.heap.size w2 wr) (fun _ i _ => n - (intOf i).toNat)
 case atStart => exact ⟨0, _, [], rfl, rfl, Nat.zero_le _, ⟨rfl, World.ownsRow_nil _ _ _ _, fun i h => by simp at h, fun i h => by simp at h, by simp⟩, Below.refl _ _⟩
 case round =>
  obtain ⟨k, v0, ys, rfl, rfl, hk, hR, hB⟩ := hrel
  have HR := hid hR
  have HB := hid hB
  by_cases hlt : k < n
  ·have hk1 : k < hd.length := by have := HN.out; omega
   have hk2 : k < xs.length := by have := H.out.held.len; omega
   have hg2 : ∃ g, ha = some ⟨g, 0, none⟩ := by rcases hg with q | q; (· omega); (· exact q)
   obtain ⟨g, rfl⟩ := hg2
   obtain ⟨e0, e1⟩ := hcells_at hd xs k hk1 hk2 H.out.held.len
   have y0 : wr.cell? ⟨g, k * 2, none⟩ = some (.string hd[k].1) := cell_on (by rw [H.out.held.row.cellAt (k * 2) (by omega)]; exact e0) hB
   have y1 : wr.cell? ⟨g, k * 2 + 1, none⟩ = some xs[k] := cell_on (by rw [H.out.held.row.cellAt (k * 2 + 1) (by omega)]; exact e1) hB
   have hx := H.out.held.rows k hk2 hk1
   have hp := H.out.held.pos k hk1
   have hwk := hw.out _ (List.getElem_mem hk1)
   generalize xs[k] = x at y1 hx
   generalize hda : hd[k] = a at y0 hx hp hwk
   have HDA := hid hda
   obtain ⟨nm, ws⟩ := a
   simp only [] at y0 hx hp hwk
   obtain ⟨xa, cx, rfl, hxa⟩ := own_shape2 hx
   have hxa2 : ∃ g, xa = some ⟨g, 0, none⟩ := by rcases hxa with q | q; (· omega); (· exact q)
   obtain ⟨gx, rfl⟩ := hxa2
   obtain ⟨m, hm⟩ : ∃ m, m = ws.length := ⟨_, rfl⟩
   rw [← hm] at y1 hx hp hwk
   have HM := hid hm
   have HX := hid hx
   have HK := hid (show min k hd.length = k by omega)
   clear hR hB hx hm hda e0 e1 hxa hg
   go_wp2_with fail
   have hB5 := hid (Bx.new wr #[.string nm, .slice (some ⟨gx, 0, none⟩) m cx] 82)
   have hB5d := hid (hB5.out.on (grown_of_below (Below.refl (wr.alloc (.cells #[.string nm, .slice (some ⟨gx, 0, none⟩) m cx] 82)).heap.size (wr.alloc (.cells #[.string nm, .slice (some ⟨gx, 0, none⟩) m cx] 82))).drew) (by simp))
   have BD : Hid (Below wr.heap.size wr (wr.alloc (.cells #[.string nm, .slice (some ⟨gx, 0, none⟩) m cx] 82)).drew) := hid (by (repeat (first | exact Below.refl _ _ | refine Below.drew ?_ | refine Below.alloc ?_ (by simp <;> omega) _)))
   refine wp_region_held_drew (S := (fun w9 => Bx w9 wr.heap.size #[.string nm, .slice (some ⟨gx, 0, none⟩) m cx] 82)) (by kernel_rfl) hB5d.out (fun hHeld => ?_)
   generalize (wr.alloc (.cells #[.string nm, .slice (some ⟨gx, 0, none⟩) m cx] 82)).drew = w3 at hB5d BD hHeld ⊢
   have HR3 := hid (HR.out.mono BD.out)
   have X3 := hid (show w3.ownsRow B 52 1 (.slice (some ⟨gx, 0, none⟩) m cx) m (ws.map (Value.int .u32)) from ownsRow_at (ownsRow_at HX.out HB.out) (BD.out.mono (Nat.le_refl _)))
   refine tk 0 ?_
   refine tk 1 ?_
   refine tk 2 ?_ (hy := by intro w' hSw; have q := hSw.cell 0; simp at q; go_simp; (try with_reducible rfl))
   refine tk 3 ?_
   refine tk 4 ?_ (hy := by intro w' hSw; have q := hSw.cell 1; simp at q; go_simp; (try with_reducible rfl))
   refine tr 5 fun K hK => ?_
   go_simp
   go_at_call 45
   refine (clone45 (some ⟨gx, 0, none⟩) m cx (ws.map (Value.int .u32)) w3 (by simp [HM.out]) (hid (.inr ⟨⟨gx, 0, none⟩, rfl, fun j q hj => by rw [show (⟨gx, 0, none⟩ : Addr).add j = ⟨gx, j, none⟩ by rw [add_plain0]; simp]; rw [X3.out.cellAt j (by obtain ⟨q9, -⟩ := List.getElem?_eq_some_iff.1 hj; simp at q9; have := HM.out; omega)]; exact hj⟩)) (hid (by simp [Value.oneCell'])) (by omega)).mono ?_
   rintro e w4 ⟨v4, rfl, hrow, hb4⟩
   have hk := hHeld.on (grown_of_below hb4) (by simp)
   have R4 := hid hrow
   have BD4 := hid (BD.out.trans (hb4.mono BD.out.size))
   have S4 := hid hb4.size
   have HR4 := hid (HR3.out.mono hb4)
   have H54 := hid hk
   obtain ⟨na, nc, rfl, hna⟩ := own_shape2 hrow
   have hna2 : ∃ g, na = some ⟨g, 0, none⟩ := by rcases hna with q | q; (· omega); (· exact q)
   obtain ⟨g5, rfl⟩ := hna2
   clear hHeld hrow hb4 hna
   go_wp2_with fail
   refine hK.out _ _ hk (fun hHeld => ?_)
   clear hK K hk
   try simp only [tpa, tpb, tpc, tpd, tpe]
   refine tk 6 ?_
   refine tr 7 fun K hK => ?_
   go_simp
   refine hK.out _ _ (H54.out.al _) (fun hHeld => ?_)
   clear hK K
   try simp only [tpa, tpb, tpc, tpd, tpe]
   refine tr 8 fun K hK => ?_
   refine step_append_str rfl _ _ 61 rfl w2.heap.size 82 82 (.agg #[.string ⟨#[]⟩, .slice none 0 0]) 2 40 1 Tryz.underlying61 (by kernel_rfl) rfl (by decide) v0 k (hcells (hd.take k) ys) [.string nm, .slice (some ⟨g5, 0, none⟩) m nc] (0, 0) (by have := HR4.out.row; simpa [List.length_take, HK.out] using this) rfl (by simp [Value.oneCell']) (by unfold maxLen; omega) (by omega) (by have := BD4.out.size; have := HB.out.size; omega) rfl rfl ?_
   intro v' w5 hA
   have FN := hid hA
   have H5 := hid ((H54.out).on hA.grown (fun e => by have := (HR.out.row.lt _ e.symm).2; omega))
   clear hA
   refine hK.out _ _ H5.out (fun hHeld => ?_)
   clear hK K
   try simp only [tpa, tpb, tpc, tpd, tpe]
   refine tk 9 ?_
   refine td ?_
   clear hHeld
   have NEW := hid (HR4.out.add (own_low (base' := w2.heap.size) (by have h9 := R4.out; rw [HM.out] at h9; exact h9) (by have q1 := BD.out.size; have q2 := HB.out.size; omega)) (by have := HM.out; omega) (fun y hy e => by obtain ⟨i, hi, rfl⟩ := List.getElem_of_mem hy; have q1 := HR3.out.rows i hi (by have := HR3.out.len; omega); have q2 := (q1.lt g5 e).2; have q3 := (R4.out.lt g5 rfl).1; omega) (by have := FN.out; simpa [List.length_take, HK.out, HM.out] using this))
   have HT := hid (show hd.take k ++ [(nm, ws)] = hd.take (k + 1) by rw [← HDA.out]; exact (List.take_append_getElem hk1))
   rw [HT.out] at NEW
   have BD5 := hid (HB.out.trans ((BD4.out.mono (Nat.le_refl _)).mono HB.out.size))
   have BD6 := hid (BD5.out.grown FN.out.grown BD5.out.size (fun q e => (HR4.out.row.lt q e).1))
   go_wp2_with fail
   go_roundw
   case rel => exact ⟨k + 1, _, _, rfl, by go_num, by omega, NEW.out, BD6.out⟩
   case measure => simp [intOf]; omega
  ·obtain rfl : k = n := by omega
   rw [HN.out, List.take_length] at HR
   clear hR hB
   go_wp2_with fail
   go_ret
   exact ⟨_, _, rfl, HB.out, HR.out⟩
end
section
open Go.Shelf
def EvI (w : World) (e : Ev) (b q : Nat) : Prop :=
 ∃ va, w.cell? ⟨b, q, none⟩ = some (.int .u32 0) ∧ w.cell? ⟨b, q + 1, none⟩ = some (.int .u32 e.number) ∧ w.cell? ⟨b, q + 2, none⟩ = some va ∧ w.cell? ⟨b, q + 3, none⟩ = some (.int .u32 e.value) ∧ RowA w e.args va
def EvC (w : World) (evs : List Ev) (v : Value) : Prop := ∃ a b o c, v = .slice a evs.length c ∧ (evs.length = 0 ∨ a = some ⟨b, o, none⟩) ∧ ∀ i (h : i < evs.length), EvI w evs[i] b (o + i * 4)
theorem EvI.below {w w' : World} {e : Ev} {b q : Nat} (h : EvI w e b q) (hb : Below w.heap.size w w') : EvI w' e b q := by
 obtain ⟨va, h0, h1, h2, h3, h4⟩ := h
 exact ⟨va, cell_on h0 hb, cell_on h1 hb, cell_on h2 hb, cell_on h3 hb, h4.below hb⟩
theorem EvC.below {w w' : World} {evs : List Ev} {v : Value} (h : EvC w evs v) (hb : Below w.heap.size w w') : EvC w' evs v := by
 obtain ⟨a, b, o, c, h1, h2, h3⟩ := h
 exact ⟨a, b, o, c, h1, h2, fun i hi => (h3 i hi).below hb⟩
theorem evcells_at : ∀ (evs : List Ev) (vas : List Value) (ats : List Nil0) (i : Nat) (h : i < evs.length) (h2 : i < vas.length), vas.length = evs.length → ats.length = evs.length →
  (evcells evs vas ats)[i * 4]? = some (.int .u32 0) ∧ (evcells evs vas ats)[i * 4 + 1]? = some (.int .u32 evs[i].number) ∧ (evcells evs vas ats)[i * 4 + 2]? = some vas[i] ∧ (evcells evs vas ats)[i * 4 + 3]? = some (.int .u32 evs[i].value)
 | a :: r, v :: vs, t :: ts, 0, _, _, _, _ => ⟨rfl, rfl, rfl, rfl⟩
 | a :: r, v :: vs, t :: ts, i + 1, h, h2, h3, h4 => by
  have ih := evcells_at r vs ts i (by simpa using h) (by simpa using h2) (by simpa using h3) (by simpa using h4)
  simp only [evcells, List.getElem_cons_succ]
  rw [show (i + 1) * 4 = i * 4 + 4 by omega]
  simpa using ih
 | _ :: _, v :: vs, [], i, h, h2, h3, h4 => by simp at h4
theorem EvR.reads {w : World} {n : Nat} {evs : List Ev} {vas : List Value} {ats : List Nil0} {ve : Value} (h : EvR w n evs vas ats ve) : EvC w evs ve := by
 have hr := h.row
 rcases h.row.2 with ⟨rfl, h0⟩ | ⟨g, cap, cur, rfl, _⟩
 ·exact ⟨none, 0, 0, 0, by rw [h0], .inl h0, fun i hi => by omega⟩
 ·refine ⟨_, g, 0, cap, rfl, .inr rfl, fun i hi => ?_⟩
  have hv : i < vas.length := by have := h.len; omega
  obtain ⟨e0, e1, e2, e3⟩ := evcells_at evs vas ats i hi hv h.len h.at_
  rw [Nat.zero_add]
  refine ⟨vas[i], ?_, ?_, ?_, ?_, RowA.of (h.args i hv hi) rfl⟩
  ·rw [hr.cellAt (i * 4) (by omega)]; exact e0
  ·rw [hr.cellAt (i * 4 + 1) (by omega)]; exact e1
  ·rw [hr.cellAt (i * 4 + 2) (by omega)]; exact e2
  ·rw [hr.cellAt (i * 4 + 3) (by omega)]; exact e3
theorem EvC.take {w : World} {evs l : List Ev} {a : Option Addr} {c : Nat} (h : EvC w (evs ++ l) (.slice a (evs ++ l).length c)) : EvC w evs (.slice a evs.length c) := by
 obtain ⟨a', b, o, c', h1, h2, h3⟩ := h
 cases h1
 refine ⟨a, b, o, c, rfl, ?_, fun i hi => ?_⟩
 ·rcases h2 with q | q
  ·left; simp at q; simp [q.1]
  ·exact .inr q
 ·have := h3 i (by simp; omega)
  rwa [List.getElem_append_left hi] at this
theorem sameEvent47 (e : Ev) (va vb : Value) (w : World) (ha : RowA w e.args va) (hb : RowA w e.args vb) (hl : e.args.length ≤ 9223372036854775807) :
  Calls Tryz.prog 47 #[.agg #[.int .u32 0, .int .u32 e.number, va, .int .u32 e.value], .agg #[.int .u32 0, .int .u32 e.number, vb, .int .u32 e.value]] w fun r w' => r = .returned (.bool true) ∧ Below w.heap.size w w' := by
 have hb0 : Below w.heap.size w ((w.alloc (.cells #[.int .u32 0, .int .u32 e.number, va, .int .u32 e.value] 127)).alloc (.cells #[.int .u32 0, .int .u32 e.number, vb, .int .u32 e.value] 127)) := by (repeat (first | exact Below.refl _ _ | refine Below.drew ?_ | refine Below.alloc ?_ (by simp <;> omega) _))
 have c := hid (sameWords44 e.args va vb _ (ha.below hb0) (hb.below hb0) hl)
 have HB := hid hb0
 obtain ⟨aa, ab, ao, ac, rfl, ha2, ha3⟩ := ha
 obtain ⟨ba, bb, bo, bc, rfl, hb2, hb3⟩ := hb
 clear ha2 ha3 hb2 hb3 hb0
 go_enter Tryz.func47, Tryz.ntmps47
 go_wp2_with fail
 refine c.out.mono ?_
 rintro r w2 ⟨rfl, hb2⟩
 have HB2 := hid (HB.out.trans (hb2.mono HB.out.size))
 clear hb2 c
 go_wp2_with fail
 go_ret
 exact ⟨rfl, HB2.out⟩
theorem sameEvents23 (evs : List Ev) (va vb : Value) (w : World) (ha : EvC w evs va) (hb : EvC w evs vb) (hl : evs.length ≤ 1000000000) (ha9 : Hid (∀ e ∈ evs, e.args.length ≤ 9223372036854775807)) : Calls Tryz.prog 23 #[va, vb] w fun e w' => e = .returned (.bool true) ∧ Below w.heap.size w w' := by
 obtain ⟨aa, ab, ao, ac, rfl, ha2, ha3⟩ := ha
 obtain ⟨ba, bb, bo, bc, rfl, hb2, hb3⟩ := hb
 have HA := hid ha3
 have HB := hid hb3
 obtain ⟨len, hlen⟩ : ∃ m, m = evs.length := ⟨_, rfl⟩
 rw [← hlen] at ha2 hb2 hl ⊢
 have hLen := hid hlen
 clear ha3 hb3 hlen
 go_enter Tryz.func23, Tryz.ntmps23
 go_wp2_with fail
 go_loopw [4, 5] (fun z i wr => ∃ (k : Nat), z = .bool false ∧ k ≤ len ∧ i = .int .i64 k ∧ Below w.heap.size w wr) (fun _ i _ => len - (intOf i).toNat)
 case atStart => exact ⟨0, rfl, Nat.zero_le _, rfl, Below.refl _ _⟩
 case round =>
  obtain ⟨k, rfl, hk, rfl, hb⟩ := hrel
  have hBB := hid hb
  by_cases hkk : k < len
  ·have hk2 : k < evs.length := by have := hLen.out; omega
   obtain ⟨v1, x0, x1, x2, x3, x4⟩ := (HA.out k hk2).below hb
   obtain ⟨v2, y0, y1, y2, y3, y4⟩ := (HB.out k hk2).below hb
   have HAL := hid (ha9.out _ (List.getElem_mem hk2))
   have e1 : aa = some ⟨ab, ao, none⟩ := by rcases ha2 with q | q; (· omega); (· exact q)
   have e2 : ba = some ⟨bb, bo, none⟩ := by rcases hb2 with q | q; (· omega); (· exact q)
   subst e1
   subst e2
   generalize evs[k] = ev at *
   have X0 := hid x0
   have X1 := hid x1
   have X2 := hid x2
   have X3 := hid x3
   have XA := hid x4
   have Y0 := hid y0
   have Y1 := hid y1
   have Y2 := hid y2
   have Y3 := hid y3
   have YA := hid y4
   clear hb ha2 hb2 x0 x1 x2 x3 x4 y0 y1 y2 y3 y4
   go_wp2_with fail
   have BD := hid (Below.refl wr.heap.size wr).drew
   refine wp_region_held_drew (S := (fun w9 => Below wr.heap.size wr w9)) (by kernel_rfl) BD.out (fun hHeld => ?_)
   generalize wr.drew = w3 at BD hHeld ⊢
   refine tk 0 ?_
   refine tk 1 ?_
   refine tk 2 ?_
   refine tk 3 ?_ (hy := by intro w' hSw; have z0 := cell_on X0.out hSw; have z1 := cell_on X1.out hSw; have z2 := cell_on X2.out hSw; have z3 := cell_on X3.out hSw; go_simp; (try with_reducible rfl))
   refine tk 4 ?_
   refine tk 5 ?_
   refine tk 6 ?_
   refine tk 7 ?_ (hy := by intro w' hSw; have z0 := cell_on Y0.out hSw; have z1 := cell_on Y1.out hSw; have z2 := cell_on Y2.out hSw; have z3 := cell_on Y3.out hSw; go_simp; (try with_reducible rfl))
   refine tr 8 fun K hK => ?_
   go_simp
   go_at_call 47
   refine (sameEvent47 ev _ _ w3 (XA.out.below BD.out) (YA.out.below BD.out) HAL.out).mono ?_
   rintro e w2 ⟨rfl, hb2⟩
   have hk := hHeld.trans (hb2.mono hHeld.size)
   have BD2 := hid hk
   clear hHeld hb2
   go_wp2_with fail
   refine hK.out _ _ hk (fun hHeld => ?_)
   clear hK K hk
   try simp only [tpa, tpb, tpc, tpd, tpe]
   refine tk 9 ?_
   refine td ?_
   clear hHeld
   go_wp2_with fail
   go_roundw
   case rel => exact ⟨k + 1, rfl, by omega, by go_num, hBB.out.trans (BD2.out.mono hBB.out.size)⟩
   case measure => simp [intOf]; omega
  ·obtain rfl : k = len := by omega
   clear hb
   go_wp2_with fail
   go_ret
   exact ⟨rfl, hBB.out⟩
theorem sameMeant18 (evs : List Ev) (va vb : Value) (en x fa st rp : Int) (w : World) (ha : EvC w evs va) (hb : EvC w evs vb) (hl : evs.length ≤ 1000000000) (ha9 : Hid (∀ e ∈ evs, e.args.length ≤ 9223372036854775807)) :
  Calls Tryz.prog 18 #[.agg #[.int .u8 en, .int .u32 x, .int .u8 fa, .int .i64 st, .int .i64 rp, va], .agg #[.int .u8 en, .int .u32 x, .int .u8 fa, .int .i64 st, .int .i64 rp, vb]] w fun e w' => e = .returned (.bool true) ∧ Below w.heap.size w w' := by
 have hb0 : Below w.heap.size w ((w.alloc (.cells #[.int .u8 en, .int .u32 x, .int .u8 fa, .int .i64 st, .int .i64 rp, va] 56)).alloc (.cells #[.int .u8 en, .int .u32 x, .int .u8 fa, .int .i64 st, .int .i64 rp, vb] 56)) := by (repeat (first | exact Below.refl _ _ | refine Below.drew ?_ | refine Below.alloc ?_ (by simp <;> omega) _))
 have c := hid (sameEvents23 evs va vb _ (ha.below hb0) (hb.below hb0) hl ha9)
 have HB := hid hb0
 obtain ⟨aa, ab, ao, ac, rfl, ha2, ha3⟩ := ha
 obtain ⟨ba, bb, bo, bc, rfl, hb2, hb3⟩ := hb
 clear ha2 ha3 hb2 hb3 hb0
 go_enter Tryz.func18, Tryz.ntmps18
 go_wp2_with fail
 refine c.out.mono ?_
 rintro r w2 ⟨rfl, hb2⟩
 have HB2 := hid (HB.out.trans (hb2.mono HB.out.size))
 clear hb2 c
 go_wp2_with fail
 go_ret
 exact ⟨rfl, HB2.out⟩
def HdI (w : World) (a : ByteArray × List Int) (b q : Nat) : Prop := ∃ va, w.cell? ⟨b, q, none⟩ = some (.string a.1) ∧ w.cell? ⟨b, q + 1, none⟩ = some va ∧ RowA w a.2 va
def HdC (w : World) (hd : HD) (v : Value) : Prop := ∃ a b o c, v = .slice a hd.length c ∧ (hd.length = 0 ∨ a = some ⟨b, o, none⟩) ∧ ∀ i (h : i < hd.length), HdI w hd[i] b (o + i * 2)
theorem HeldR.reads {w : World} {B : Nat} {hd : HD} {xs : List Value} {v : Value} (h : HeldR w B hd xs v) : HdC w hd v := by
 have hr := h.row
 rcases h.row.2 with ⟨rfl, h0⟩ | ⟨g, cap, cur, rfl, _⟩
 ·exact ⟨none, 0, 0, 0, by rw [h0], .inl h0, fun i hi => by omega⟩
 ·refine ⟨_, g, 0, cap, rfl, .inr rfl, fun i hi => ?_⟩
  have hv : i < xs.length := by have := h.len; omega
  obtain ⟨e0, e1⟩ := hcells_at hd xs i hi hv h.len
  rw [Nat.zero_add]
  refine ⟨xs[i], ?_, ?_, RowA.of (h.rows i hv hi) rfl⟩
  ·rw [hr.cellAt (i * 2) (by omega)]; exact e0
  ·rw [hr.cellAt (i * 2 + 1) (by omega)]; exact e1
theorem sameHeld19 (hd : HD) (va vb : Value) (w : World) (ha : HdC w hd va) (hb : HdC w hd vb) (hl : hd.length ≤ 1000000000) (ha9 : Hid (∀ a ∈ hd, a.2.length ≤ 1000000000)) : Calls Tryz.prog 19 #[va, vb] w fun e w' => e = .returned (.bool true) ∧ Below w.heap.size w w' := by
 obtain ⟨aa, ab, ao, ac, rfl, ha2, ha3⟩ := ha
 obtain ⟨ba, bb, bo, bc, rfl, hb2, hb3⟩ := hb
 have HA := hid ha3
 have HB := hid hb3
 obtain ⟨len, hlen⟩ : ∃ m, m = hd.length := ⟨_, rfl⟩
 rw [← hlen] at ha2 hb2 hl ⊢
 have hLen := hid hlen
 clear ha3 hb3 hlen
 go_enter Tryz.func19, Tryz.ntmps19
 go_wp2_with fail
 go_loopw [4, 5] (fun z i wr => ∃ (k : Nat), z = .bool false ∧ k ≤ len ∧ i = .int .i64 k ∧ Below w.heap.size w wr) (fun _ i _ => len - (intOf i).toNat)
 case atStart => exact ⟨0, rfl, Nat.zero_le _, rfl, Below.refl _ _⟩
 case round =>
  obtain ⟨k, rfl, hk, rfl, hb⟩ := hrel
  have hBB := hid hb
  by_cases hkk : k < len
  ·have hk2 : k < hd.length := by have := hLen.out; omega
   obtain ⟨v1, x0, x1, x4⟩ := HA.out k hk2
   obtain ⟨v2, y0, y1, y4⟩ := HB.out k hk2
   have HAL := hid (ha9.out _ (List.getElem_mem hk2))
   have e1 : aa = some ⟨ab, ao, none⟩ := by rcases ha2 with q | q; (· omega); (· exact q)
   have e2 : ba = some ⟨bb, bo, none⟩ := by rcases hb2 with q | q; (· omega); (· exact q)
   subst e1
   subst e2
   generalize hd[k] = a at *
   obtain ⟨nm, ws⟩ := a
   have X0 := hid (cell_on x0 hb)
   have X1 := hid (cell_on x1 hb)
   have XA := hid (x4.below hb)
   have Y0 := hid (cell_on y0 hb)
   have Y1 := hid (cell_on y1 hb)
   have YA := hid (y4.below hb)
   obtain ⟨v1a, v1b, v1o, v1c, rfl, -, -⟩ := x4
   obtain ⟨v2a, v2b, v2o, v2c, rfl, -, -⟩ := y4
   simp only [] at X0 X1 XA Y0 Y1 YA HAL
   clear hb ha2 hb2 x0 x1 y0 y1
   go_wp2_with fail
   have BD := hid (Below.refl wr.heap.size wr).drew
   refine wp_region_held_drew (S := (fun w9 => Below wr.heap.size wr w9)) (by kernel_rfl) BD.out (fun hHeld => ?_)
   generalize wr.drew = w3 at BD hHeld ⊢
   refine tk 0 ?_
   refine tk 1 ?_
   refine tk 2 ?_
   refine tk 3 ?_
   refine tk 4 ?_ (hy := by intro w' hSw; have z0 := cell_on X0.out hSw; go_simp; (try with_reducible rfl))
   refine tk 5 ?_
   refine tk 6 ?_
   refine tk 7 ?_
   refine tk 8 ?_
   refine tk 9 ?_ (hy := by intro w' hSw; have z0 := cell_on Y0.out hSw; go_simp; (try with_reducible rfl))
   refine tk 10 ?_
   refine tk 11 ?_
   refine tk 12 ?_
   refine tk 13 ?_
   refine tk 14 ?_
   refine tk 15 ?_
   refine tk 16 ?_ (hy := by intro w' hSw; have z0 := cell_on X1.out hSw; go_simp; (try with_reducible rfl))
   refine tk 17 ?_
   refine tk 18 ?_
   refine tk 19 ?_
   refine tk 20 ?_
   refine tk 21 ?_ (hy := by intro w' hSw; have z0 := cell_on Y1.out hSw; go_simp; (try with_reducible rfl))
   refine tr 22 fun K hK => ?_
   go_simp
   go_at_call 44
   refine (sameWords44 ws _ _ w3 (XA.out.below BD.out) (YA.out.below BD.out) (by have := HAL.out; omega)).mono ?_
   rintro e w2 ⟨rfl, hb2⟩
   have hk := hHeld.trans (hb2.mono hHeld.size)
   have BD2 := hid hk
   clear hHeld hb2
   go_wp2_with fail
   refine hK.out _ _ hk (fun hHeld => ?_)
   clear hK K hk
   try simp only [tpa, tpb, tpc, tpd, tpe]
   refine tk 23 ?_
   refine tk 24 ?_
   refine td ?_
   clear hHeld
   go_wp2_with fail
   go_roundw
   case rel => exact ⟨k + 1, rfl, by omega, by go_num, hBB.out.trans (BD2.out.mono hBB.out.size)⟩
   case measure => simp [intOf]; omega
  ·obtain rfl : k = len := by omega
   clear hb
   go_wp2_with fail
   go_ret
   exact ⟨rfl, hBB.out⟩
end
section
open Go.Shelf
theorem gatF_keep {vs : VS} : ∀ {l : List FH} {i : Nat} {c c2 : CSg}, gatF l i vs c = some c2 → ∀ s x, getM s c = some x → getM s c2 = some x
 | [], _, _, _, e, s, x, h => by cases e; exact h
 | a :: r, i, c, c2, e, s, x, h => by
  simp only [gatF] at e
  split at e
  ·cases e
  rename_i hn
  refine gatF_keep e s x ?_
  rw [getM_putM]
  split
  ·rename_i hs
   have : s = a.name := (MapKept.bytes_beq s a.name).1 hs
   subst this
   exfalso
   apply hn
   unfold hasN
   rw [h]
   simp
  ·exact h
theorem gatF_at {vs : VS} : ∀ {l : List FH} {i : Nat} {c c2 : CSg}, gatF l i vs c = some c2 → ∀ j (h : j < l.length), getM l[j].name c2 = some ⟨l[j].params, l[j].type, -1, ((i + j : Nat) : Int)⟩
 | a :: r, i, c, c2, e, j, h => by
  simp only [gatF] at e
  split at e
  ·cases e
  cases j with
  | zero =>
   refine gatF_keep e _ _ ?_
   simp only [List.getElem_cons_zero]
   rw [getM_putM, if_pos ((MapKept.bytes_beq _ _).2 rfl)]
   rfl
  | succ j =>
   have := gatF_at e j (by simpa using h)
   simp only [List.getElem_cons_succ]
   rw [this]
   congr 2
   omega
theorem gatU_fn {u : UT} {vs : VS} {cs : CSg} (h : gatU u = some (vs, cs)) (j : Nat) (hj : j < u.fs.length) : getM u.fs[j].name cs = some ⟨u.fs[j].params, u.fs[j].type, -1, (j : Int)⟩ := by
 obtain ⟨-, c1, h1, h2⟩ := gatU_parts h
 have := gatF_at h2 j hj
 rw [this, Nat.zero_add]
theorem nd_big {A A2 Z : Nat} (h : A ≤ A2) : nd A Z 0 0 0 ≤ nd A2 Z 0 0 0 := by
 unfold nd
 have h1 : (A + 1) * (Z + 4) ≤ (A2 + 1) * (Z + 4) := Nat.mul_le_mul_right _ (by omega)
 have h2 : (A - 0) * (Z + 4) ≤ (A2 - 0) * (Z + 4) := Nat.mul_le_mul_right _ (by omega)
 have h3 : (17 - 0) * ((A + 1) * (Z + 4)) ≤ (17 - 0) * ((A2 + 1) * (Z + 4)) := Nat.mul_le_mul_left _ h1
 omega
theorem call_fuel : ∃ K : Nat, ∀ (u : UT) (vs : VS) (cs : CSg) (al : Nat) (values : List Int) (s : ByteArray) (g : Sig) (args : List Int) (held : List (List Int)), u.Wf → senseU u = 0 → gatU u = some (vs, cs) → al ≤ 65536 → (∀ x ∈ values, U x) → getM s cs = some g → g.host < 0 → args.length = g.params.length →
  (evl (cfU u vs cs al values) K).F 0 g args ⟨held, 0, 0, []⟩ ≠ .lost := by
 refine ⟨nd 65536 16384 0 0 0, fun u vs cs al values s g args held wf hs hg ha hv hq hh hl => ?_⟩
 have hc := cfU_ok (allowed := al) (values := values) wf hs hg ha hv
 exact (evl_nl hc.ok hc.size _).F 0 s g args _ (by omega) hq hh hl (nd_big ha)
def callE (cs : CSg) (s : ByteArray) (n : Nat) : Int :=
 match getM s cs with
 | none => 291
 | some g => if 0 ≤ g.host then 291 else if n = g.params.length then 0 else 293
section
variable {w : World} {B : Nat} {u : UT} {vs : VS} {cs : CSg} {hd : HD} {xs : List Value} {X vb cb pb : Nat} {vg vh vf hv : Value}
theorem call17_any (h : WoR w B u vs cs (plG u.gs 0 []) hd xs X vb cb pb vg vh vf hv) (wf : u.Wf) (hs : senseU u = 0) (hg : gatU u = some (vs, cs)) (ho : HdOk u hd) {s : ByteArray} {args : List Int} {va : Value} {al : Nat} {values : List Int} {vv : Value} {k : Nat}
  (hU : ∀ x ∈ args, U x) (hra : RowA w args va) (ha : al ≤ 65536) (hvU : ∀ x ∈ values, U x) (hv0 : ValR w w.heap.size (own52 xs) values vv) (hvl : values.length ≤ 1000000000)
  (hnl : ∀ g, getM s cs = some g → g.host < 0 → args.length = g.params.length → (evl (cfU u vs cs al values) k).F 0 g args ⟨hd.map (·.2), 0, 0, []⟩ ≠ .lost) :
  Calls Tryz.prog 17 #[.pointer (some ⟨X, 0, none⟩), .string s, va, .int .i64 al, vv] w fun e w' =>
   (callE cs s args.length ≠ 0 ∧ e = .returned (.tuple #[zeroO, .int .i64 (callE cs s args.length)]) ∧ Below w.heap.size w w') ∨
   (callE cs s args.length = 0 ∧ ∃ g, getM s cs = some g ∧ g.host < 0 ∧ args.length = g.params.length ∧ PCall B u vs cs hd xs X vb cb pb vg vh vf hv ((evl (cfU u vs cs al values) k).F 0 g args ⟨hd.map (·.2), 0, 0, []⟩) w e w') := by
 have c6 : w.cell? ⟨X, 6, none⟩ = some (.map (some pb)) := by simpa using h.box.cell 6
 have c4 : w.cell? ⟨X, 4, none⟩ = some (.map (some cb)) := by simpa using h.box.cell 4
 have hX := h.box.lt
 rcases h.sig s with ⟨e1, hlk⟩ | ⟨g, ka, kc, e1, hsp, hlk⟩
 ·have e : callE cs s args.length = 291 := by unfold callE; rw [e1]
  rw [e]
  exact (call17_noname X pb cb s .nilIface va al vv w hX c6 c4 (by omega) (by omega) (hlk _ (by (repeat (first | exact Below.refl _ _ | refine Below.drew ?_ | refine Below.alloc ?_ (by simp <;> omega) _))))).mono fun e w' q => .inl ⟨by decide, q.1, q.2⟩
 by_cases hh : 0 ≤ g.host
 ·have e : callE cs s args.length = 291 := by unfold callE; rw [e1]; simp only [hh, if_true]
  rw [e]
  exact (call17_host X pb cb s ka g.params.length kc g.type g.host g.fn va al vv w hX c6 c4 hh (by omega) (by omega) (hlk _ (by (repeat (first | exact Below.refl _ _ | refine Below.drew ?_ | refine Below.alloc ?_ (by simp <;> omega) _))))).mono fun e w' q => .inl ⟨by decide, q.1, q.2⟩
 by_cases hl : args.length = g.params.length
 ·have e : callE cs s args.length = 0 := by unfold callE; rw [e1]; simp only [hh, if_false, hl, if_true]
  rw [e]
  exact (call17_call h wf hs hg ho e1 (by omega) hl hU hra ha hvU hv0 hvl (hnl g e1 (by omega) hl)).mono fun e w' q => .inr ⟨rfl, g, e1, by omega, hl, q⟩
 ·have e : callE cs s args.length = 293 := by unfold callE; rw [e1]; simp only [hh, if_false, hl]
  rw [e]
  obtain ⟨aa, ab, ao, ac, rfl, -, -⟩ := hra
  exact (call17_arity X pb cb s ka g.params.length kc g.type g.host g.fn aa args.length ac al vv w hX c6 c4 (by omega) (fun q => hl q.symm) (by omega) (by omega) (hlk _ (by (repeat (first | exact Below.refl _ _ | refine Below.drew ?_ | refine Below.alloc ?_ (by simp <;> omega) _))))).mono fun e w' q => .inl ⟨by decide, q.1, q.2⟩
end
end
section
open Go.Shelf
structure A4 (w0 : World) (n : Nat) (c26 c29 : Array Value) (wr : World) : Prop where
 b1 : Bx wr n c26 26
 b2 : Bx wr (n + 1) c29 29
 below : Below n w0 wr
theorem A4.on {w0 wr w' : World} {n : Nat} {c26 c29 : Array Value} (h : A4 w0 n c26 c29 wr) (hb : Below wr.heap.size wr w') : A4 w0 n c26 c29 w' :=
 ⟨h.b1.on (grown_of_below hb) (by simp), h.b2.on (grown_of_below hb) (by simp), h.below.trans (hb.mono (Nat.le_of_lt h.b1.lt))⟩
theorem A4.far {w0 wr w' : World} {n m : Nat} {c26 c29 : Array Value} (h : A4 w0 n c26 c29 wr) (hb : Below m wr w') (hm : n + 2 ≤ m) : A4 w0 n c26 c29 w' :=
 ⟨(hb.block _ (by omega)).trans h.b1, (hb.block _ (by omega)).trans h.b2, h.below.trans (hb.mono (by omega))⟩
theorem A4.start (w : World) (c26 c29 : Array Value) : A4 w w.heap.size c26 c29 ((w.alloc (.cells c26 26)).alloc (.cells c29 29)) :=
 ⟨(Bx.new w c26 26).al _, by simpa using Bx.new (w.alloc (.cells c26 26)) c29 29, by (repeat (first | exact Below.refl _ _ | refine Below.drew ?_ | refine Below.alloc ?_ (by simp <;> omega) _))⟩
theorem HeldR.kpt {w w' : World} {B : Nat} {hd : HD} {xs : List Value} {v : Value} (h : HeldR w B hd xs v) {T : Nat → Prop} (hk : Kpt T w.heap.size w w') (hT : ∀ b, B ≤ b → ¬ T b) : HeldR w' B hd xs v :=
 ⟨h.len, hk.own h.row fun b hb => ⟨(h.row.lt b hb).2, hT b (own_from h.row hb)⟩, fun i h1 h2 => hk.own (h.rows i h1 h2) fun b hb => ⟨((h.rows i h1 h2).lt b hb).2, hT b (own_from (h.rows i h1 h2) hb)⟩, h.pos, h.nd⟩
theorem RowA.valR {w w' : World} {l : List Int} {v : Value} (h : RowA w l v) (hb : Below w.heap.size w w') {xs : List Value} (hx : ∀ b, own52 xs b → w.heap.size ≤ b) : ValR w' w'.heap.size (own52 xs) l v := by
 obtain ⟨aa, ab, ao, ac, h1, h2, h3⟩ := h
 refine ⟨aa, ab, ao, ac, h1, h2, ?_, fun i hi => cell_on (h3 i hi) hb⟩
 by_cases h0 : l.length = 0
 ·exact .inl h0
 ·have := World.block_lt_of_cell? _ _ (h3 0 (by omega))
  simp only [] at this
  exact .inr ⟨by have := hb.size; omega, fun q => by have := hx _ q; omega⟩
theorem six_set {w : World} {b : Nat} {c0 c1 c2 c3 c4 c5 : Value} (h : Bx w b #[c0, c1, c2, c3, c4, c5] 56) (v0 v1 v2 v3 v4 v5 : Value) :
  w.grownBy ((((((w.setCell ⟨b, 0, none⟩ v0).setCell ⟨b, 1, none⟩ v1).setCell ⟨b, 2, none⟩ v2).setCell ⟨b, 3, none⟩ v3).setCell ⟨b, 4, none⟩ v4).setCell ⟨b, 5, none⟩ v5) (some b) ∧
   Bx ((((((w.setCell ⟨b, 0, none⟩ v0).setCell ⟨b, 1, none⟩ v1).setCell ⟨b, 2, none⟩ v2).setCell ⟨b, 3, none⟩ v3).setCell ⟨b, 4, none⟩ v4).setCell ⟨b, 5, none⟩ v5) b #[v0, v1, v2, v3, v4, v5] 56 := by
 have h9 := (((((Below.refl 0 w).setCell (p := ⟨b, 0, none⟩) (Nat.zero_le _) v0).setCell (p := ⟨b, 1, none⟩) (Nat.zero_le _) v1).setCell (p := ⟨b, 2, none⟩) (Nat.zero_le _) v2).setCell (p := ⟨b, 3, none⟩) (Nat.zero_le _) v3).setCell (p := ⟨b, 4, none⟩) (Nat.zero_le _) v4 |>.setCell (p := ⟨b, 5, none⟩) (Nat.zero_le _) v5
 have hs := (((((h.set 0 v0).set 1 v1).set 2 v2).set 3 v3).set 4 v4).set 5 v5
 simp at hs
 exact ⟨⟨h9.os, h9.tape, h9.output, h9.size, fun k hk hn => by
  have hq : k ≠ b := fun e => hn (by rw [e])
  rw [Below.heap_setCell _ ⟨b, 5, none⟩ _ k hq, Below.heap_setCell _ ⟨b, 4, none⟩ _ k hq, Below.heap_setCell _ ⟨b, 3, none⟩ _ k hq, Below.heap_setCell _ ⟨b, 2, none⟩ _ k hq, Below.heap_setCell _ ⟨b, 1, none⟩ _ k hq, Below.heap_setCell _ ⟨b, 0, none⟩ _ k hq]⟩, hs⟩
theorem A4.gr {w0 wr w' : World} {n b : Nat} {c26 c29 : Array Value} (h : A4 w0 n c26 c29 wr) (hg : wr.grownBy w' (some b)) (hn : n + 2 ≤ b) : A4 w0 n c26 c29 w' :=
 ⟨h.b1.on hg (by simp; omega), h.b2.on hg (by simp; omega), h.below.grown hg (Nat.le_of_lt h.b1.lt) (fun k e => by cases e; omega)⟩
theorem HeldR.gr {w w' : World} {B : Nat} {hd : HD} {xs : List Value} {v : Value} (h : HeldR w B hd xs v) {b : Nat} {c : Array Value} (hx : Bx w b c 56) (hg : w.grownBy w' (some b)) : HeldR w' B hd xs v :=
 h.on hg (.inr fun e => (h.box hx (by decide) (by decide)).1 e.symm) (fun x hm => .inr fun e => (h.box hx (by decide) (by decide)).2 x hm e.symm)
theorem WoR.gr {w w' : World} {B : Nat} {u : UT} {vs : VS} {cs : CSg} {pl : List (ByteArray × Int)} {hd : HD} {xs : List Value} {X vb cb pb : Nat} {vg vh vf hv : Value} (h : WoR w B u vs cs pl hd xs X vb cb pb vg vh vf hv) {b : Nat} {c : Array Value} (hx : Bx w b c 56) (hg : w.grownBy w' (some b)) (hB : B ≤ b) :
  WoR w' B u vs cs pl hd xs X vb cb pb vg vh vf hv := by
 have h2 := h.moveT (w' := w') (T := fun q => q = b) (held := hd.map (·.2)) (Kpt.gr hg (Nat.le_refl _) fun k e => by cases e; exact .inl rfl) (fun q hq e => by omega) (fun e => h.box.ne_box hx (by decide) (by simpa using e)) (fun q hq e => hx.not_row h.held.row (by decide) (by rw [hq, e])) (by simp) (fun i h1 h2 => by
  rw [held_at]
  exact (h.held.rows i h1 (by simpa using h2)).kept hg (.inr fun e => hx.not_row (h.held.rows i h1 (by simpa using h2)) (by decide) e.symm)) (fun q hq => by
  obtain ⟨a, ha, rfl⟩ := List.mem_map.1 hq
  obtain ⟨i, hi, rfl⟩ := List.getElem_of_mem ha
  exact h.held.pos i hi)
 rwa [hdOf_same] at h2
theorem WoR.far52 {w : World} {B : Nat} {u : UT} {vs : VS} {cs : CSg} {pl : List (ByteArray × Int)} {hd : HD} {xs : List Value} {X vb cb pb : Nat} {vg vh vf hv : Value} (h : WoR w B u vs cs pl hd xs X vb cb pb vg vh vf hv) {b : Nat} (hb : own52 xs b) : B ≤ b ∧ b < w.heap.size := by
 obtain ⟨x, hx, hq⟩ := hb
 obtain ⟨i, hi, rfl⟩ := List.getElem_of_mem hx
 have hr := h.held.rows i hi (by have := h.held.len; omega)
 exact ⟨own_from hr hq, (hr.lt b hq).2⟩
end
section
open Go.ChangeShapes Go.WideShapes Go.ChangeAt
/-! ### the arguments opened -/
section
variable {H : Type} {enc : TypeId × Value → H} {w : World}
theorem cells_get {base : Nat} {a : Addr} {n : Nat} {cs : List Value} (h : w.cells? base a n = some cs) : cs.length = n ∧ ∀ j, j < n → w.cell? (a.add j) = cs[j]? := by
 unfold World.cells? at h
 split at h
 ·have hl := mapM_some_length h
  rw [List.length_range] at hl
  refine ⟨hl, fun j hj => ?_⟩
  have := mapM_some_get h j j (by simp [hj])
  exact this
 ·simp at h
theorem add_plain' (b o j : Nat) : (⟨b, o, none⟩ : Addr).add j = ⟨b, o + j, none⟩ := by
 unfold Addr.add
 split
 ·rename_i h; subst h; rfl
 ·rfl
theorem rows_open {P : Program} {t e : TypeId} {c fuel : Nat} {v : Value} {y : DataW H × List MemPlace} (ht : P.underlying t = some (.slice e)) (hc : P.cellsOf e = c) (hpos : 0 < c)
  (h : DataW.trod enc P w 0 (fun _ => true) true fuel t [v] = some y) :
  ∃ (a : Option Addr) (b off n cap : Nat) (elems : List (DataW H × List MemPlace)), v = .slice a elems.length cap ∧ (elems.length = 0 ∨ a = some ⟨b, off, none⟩) ∧ n < fuel ∧ Rows.uptoBulkAll (elems.map (·.1)) + 1 ≤ Rows.uptoBulk y.1 ∧
   ∀ i (hi : i < elems.length), ∃ cs : List Value, cs.length = c ∧ (∀ j, j < c → w.cell? ⟨b, off + i * c + j, none⟩ = cs[j]?) ∧ DataW.trod enc P w 0 (fun _ => true) true n e cs = some elems[i] := by
 have hf0 : 0 < fuel := by
  rcases Nat.eq_zero_or_pos fuel with rfl | q
  ·simp [DataW.trod] at h
  ·exact q
 rcases DataW.trod_slice ht h with ⟨hcs, hx⟩ | ⟨x, l, c', elems, rest, n, hfu, hcs, hx, _, hl, hm, hel, heach, hsp, _⟩
 ·simp only [List.cons.injEq, and_true] at hcs
  subst hcs
  refine ⟨none, 0, 0, 0, 0, [], rfl, .inl rfl, hf0, ?_, fun i hi => by simp at hi⟩
  rw [hx]
  simp [Rows.uptoBulk, Rows.uptoBulkAll]
 ·simp only [List.cons.injEq, and_true] at hcs
  subst hcs
  have hb : Rows.uptoBulkAll (elems.map (·.1)) + 1 ≤ Rows.uptoBulk y.1 := by rw [hx]; simp only [Rows.uptoBulk]; omega
  have each : ∀ i (hi : i < elems.length), ∃ cs : List Value, cs.length = c ∧ (∀ j, j < c → w.cell? ((x.add (i * c)).add j) = cs[j]?) ∧ DataW.trod enc P w 0 (fun _ => true) true n e cs = some elems[i] := by
   intro i hi
   have h1 := heach i (by omega)
   rw [List.getElem?_eq_getElem hi, Option.bind_eq_some_iff] at h1
   obtain ⟨cs, h2, h3⟩ := h1
   rw [hc] at h2
   obtain ⟨h4, h5⟩ := cells_get h2
   exact ⟨cs, h4, h5, h3⟩
  by_cases h0 : elems.length = 0
  ·exact ⟨some x, 0, 0, n, c', elems, by rw [hel], .inl h0, by omega, hb, fun i hi => by omega⟩
  ·obtain ⟨b, off, spot⟩ := x
   have hspot : spot = none := by
    obtain ⟨cs, h1, h2, _⟩ := each 0 (by omega)
    have := h2 0 hpos
    rw [List.getElem?_eq_getElem (by omega)] at this
    simpa [Addr.add] using World.cell?_spot this
   subst hspot
   refine ⟨some ⟨b, off, none⟩, b, off, n, c', elems, by rw [hel], .inr rfl, by omega, hb, fun i hi => ?_⟩
   obtain ⟨cs, h1, h2, h3⟩ := each i hi
   refine ⟨cs, h1, fun j hj => ?_, h3⟩
   have := h2 j hj
   rwa [add_plain', add_plain'] at this
theorem pick_sum {α β : Type} (Q : Nat → α → Prop) (μ : α → Nat) (ν : β → Nat) : ∀ (es : List β) (k : Nat), (∀ i (h : i < es.length), ∃ r, Q (k + i) r ∧ μ r + 1 ≤ ν es[i]) → ∃ l : List α, l.length = es.length ∧ (∀ i (h : i < l.length), Q (k + i) l[i]) ∧ (l.map (fun a => μ a + 1)).sum ≤ (es.map ν).sum
 | [], k, _ => ⟨[], rfl, fun i h => by simp at h, Nat.le_refl _⟩
 | e :: es, k, h => by
  obtain ⟨r, h1, h2⟩ := h 0 (by simp)
  obtain ⟨l, h3, h4, h5⟩ := pick_sum Q μ ν es (k + 1) (fun i hi => by
   have := h (i + 1) (by simpa using hi)
   rw [show k + (i + 1) = k + 1 + i by omega] at this
   exact this)
  refine ⟨r :: l, by simp [h3], fun i hi => ?_, by simp only [List.map_cons, List.sum_cons]; simp only [List.getElem_cons_zero] at h2; omega⟩
  cases i with
  | zero => exact h1
  | succ i =>
   have := h4 i (by simpa using hi)
   rw [show k + 1 + i = k + (i + 1) by omega] at this
   exact this
theorem bulk_sum : ∀ l : List (DataW H), Rows.uptoBulkAll l = (l.map Rows.uptoBulk).sum
 | [] => rfl
 | d :: l => by simp only [Rows.uptoBulkAll, List.map_cons, List.sum_cons, bulk_sum l]
theorem rows_list {P : Program} {α : Type} {t e : TypeId} {c fuel : Nat} {v : Value} {y : DataW H × List MemPlace} (ht : P.underlying t = some (.slice e)) (hc : P.cellsOf e = c) (hpos : 0 < c) (R : α → Nat → Nat → Prop) (μ : α → Nat)
  (each : ∀ (n : Nat) (cs : List Value) (z : DataW H × List MemPlace) (b q : Nat), n < fuel → cs.length = c → (∀ j, j < c → w.cell? ⟨b, q + j, none⟩ = cs[j]?) → DataW.trod enc P w 0 (fun _ => true) true n e cs = some z → ∃ a, R a b q ∧ μ a + 1 ≤ Rows.uptoBulk z.1)
  (h : DataW.trod enc P w 0 (fun _ => true) true fuel t [v] = some y) : ∃ l : List α, SlR w none e c R l v ∧ (l.map (fun a => μ a + 1)).sum + 1 ≤ Rows.uptoBulk y.1 := by
 obtain ⟨a, b, off, n, cap, elems, rfl, ha, hn, hb, hE⟩ := rows_open ht hc hpos h
 obtain ⟨l, h1, h2, h3⟩ := pick_sum (fun i r => R r b (off + i * c)) μ (fun z : DataW H × List MemPlace => Rows.uptoBulk z.1) elems 0 (fun i hi => by
  obtain ⟨cs, e1, e2, e3⟩ := hE i hi
  obtain ⟨r, e4, e5⟩ := each n cs _ b (off + i * c) hn e1 e2 e3
  exact ⟨r, by rw [Nat.zero_add]; exact e4, e5⟩)
 refine ⟨l, ⟨a, b, off, cap, by rw [h1], by rw [h1]; exact ha.imp (fun q => ⟨q, rfl⟩) (fun q => ⟨q, Zone.any⟩), fun i hi => by have := h2 i hi; rwa [Nat.zero_add] at this⟩, ?_⟩
 rw [bulk_sum, List.map_map] at hb
 have : (elems.map (Rows.uptoBulk ∘ fun x => x.1)).sum = (elems.map (fun z : DataW H × List MemPlace => Rows.uptoBulk z.1)).sum := rfl
 omega
theorem fld_int {P : Program} {k : IntKind} {t : TypeId} {n : Nat} {v : Value} {y : DataW H × List MemPlace} (ht : P.underlying t = some (.int k)) (h : DataW.trod enc P w 0 (fun _ => true) true n t [v] = some y) :
  ∃ x, v = .int k x ∧ (Lit.int k x).wf = true := by
 obtain ⟨x, h1, h2, h3⟩ := DataW.trod_int ht h
 simp only [List.cons.injEq, and_true] at h1
 exact ⟨x, h1, h3⟩
theorem fld_bool {P : Program} {t : TypeId} {n : Nat} {v : Value} {y : DataW H × List MemPlace} (ht : P.underlying t = some .bool) (h : DataW.trod enc P w 0 (fun _ => true) true n t [v] = some y) :
  ∃ x, v = .bool x := by
 obtain ⟨x, h1, _⟩ := DataW.trod_bool ht h
 simp only [List.cons.injEq, and_true] at h1
 exact ⟨x, h1⟩
theorem fld_str {P : Program} {t : TypeId} {n : Nat} {v : Value} {y : DataW H × List MemPlace} (ht : P.underlying t = some .string) (h : DataW.trod enc P w 0 (fun _ => true) true n t [v] = some y) :
  ∃ x, v = .string x ∧ x.size + 1 = Rows.uptoBulk y.1 := by
 obtain ⟨x, h1, h2, h3⟩ := DataW.trod_string ht h
 simp only [List.cons.injEq, and_true] at h1
 refine ⟨x, h1, ?_⟩
 rw [h2]
 simp [Rows.uptoBulk]
theorem fld {P : Program} {fs : Array Field} {cs : List Value} {xs : List (DataW H × List MemPlace)} {n : Nat}
  (hf : ∀ (i : Nat) (f : Field), fs[i]? = some f → DataW.trod enc P w 0 (fun _ => true) true n f.type ((cs.drop f.offset).take (P.cellsOf f.type)) = xs[i]?)
  (i : Nat) (f : Field) (hi : fs[i]? = some f) (l : List Value) (hl : (cs.drop f.offset).take (P.cellsOf f.type) = l) (T : TypeId) (hT : f.type = T) (y : DataW H × List MemPlace) (hy : xs[i]? = some y) :
  DataW.trod enc P w 0 (fun _ => true) true n T l = some y := by
 have h := hf i f hi
 rw [hl, hT, hy] at h
 exact h
end
theorem cells134 : Tryz.prog.cellsOf 134 = 7 := by kernel_rfl
theorem cells109 : Tryz.prog.cellsOf 109 = 8 := by kernel_rfl
theorem cells46 : Tryz.prog.cellsOf 46 = 2 := by kernel_rfl
theorem cells105 : Tryz.prog.cellsOf 105 = 5 := by kernel_rfl
theorem cells101 : Tryz.prog.cellsOf 101 = 5 := by kernel_rfl
theorem cells52 : Tryz.prog.cellsOf 52 = 1 := by kernel_rfl
theorem cells43 : Tryz.prog.cellsOf 43 = 6 := by kernel_rfl
def U32 (x : Int) : Prop := 0 ≤ x ∧ x < 4294967296
theorem u32_of {x : Int} (h : (Lit.int .u32 x).wf = true) : U32 x := by
 have := wf_u32.1 h
 unfold U32
 omega
def Exs.wt : Exs → Nat
 | .nil => 0
 | .cons h k r => h.name.size + h.sign.size + k.wt + r.wt + 1
def Exs.Rg : Exs → Prop
 | .nil => True
 | .cons h k r => U32 h.word ∧ k.Rg ∧ r.Rg
def Sts.wt : Sts → Nat
 | .nil => 0
 | .cons h x b e r => h.name.size + h.sign.size + x.wt + b.wt + e.wt + r.wt + 1
def Sts.Rg : Sts → Prop
 | .nil => True
 | .cons _ x b e r => x.Rg ∧ b.Rg ∧ e.Rg ∧ r.Rg
theorem Exs.sz_wt : ∀ l : Exs, l.sz ≤ l.wt
 | .nil => Nat.le_refl _
 | .cons h k r => by have := Exs.sz_wt k; have := Exs.sz_wt r; simp only [Exs.sz, Exs.wt]; omega
theorem Sts.sz_wt : ∀ l : Sts, l.sz ≤ l.wt
 | .nil => Nat.le_refl _
 | .cons h x b e r => by have := Exs.sz_wt x; have := Sts.sz_wt b; have := Sts.sz_wt e; have := Sts.sz_wt r; simp only [Sts.sz, Sts.wt]; omega
theorem Exs.wf_of : ∀ l : Exs, l.wt ≤ 1048576 → l.Rg → l.Wf
 | .nil, _, _ => trivial
 | .cons h k r, hw, hr => by
  simp only [Exs.wt] at hw
  exact ⟨⟨hr.1, by omega, by omega⟩, Exs.wf_of k (by omega) hr.2.1, Exs.wf_of r (by omega) hr.2.2⟩
theorem Sts.wf_of : ∀ l : Sts, l.wt ≤ 1048576 → l.Rg → l.Wf
 | .nil, _, _ => trivial
 | .cons h x b e r, hw, hr => by
  simp only [Sts.wt] at hw
  exact ⟨⟨by omega, by omega⟩, Exs.wf_of x (by omega) hr.1, Sts.wf_of b (by omega) hr.2.1, Sts.wf_of e (by omega) hr.2.2.1, Sts.wf_of r (by omega) hr.2.2.2⟩
def Exs.ofL : List (EH × Exs) → Exs
 | [] => .nil
 | a :: l => .cons a.1 a.2 (Exs.ofL l)
theorem Exs.to_of : ∀ l, (Exs.ofL l).toL = l
 | [] => rfl
 | a :: l => by simp [Exs.ofL, Exs.toL, Exs.to_of l]
theorem Exs.wt_of : ∀ l, (Exs.ofL l).wt = (l.map (fun a : EH × Exs => (a.1.name.size + a.1.sign.size + a.2.wt) + 1)).sum
 | [] => rfl
 | a :: l => by simp only [Exs.ofL, Exs.wt, List.map_cons, List.sum_cons, Exs.wt_of l]; omega
theorem Exs.rg_of : ∀ l, (∀ a ∈ l, U32 a.1.word ∧ a.2.Rg) → (Exs.ofL l).Rg
 | [], _ => trivial
 | a :: l, h => ⟨(h a (by simp)).1, (h a (by simp)).2, Exs.rg_of l (fun b hb => h b (by simp [hb]))⟩
def Sts.ofL : List SB → Sts
 | [] => .nil
 | a :: l => .cons a.1 a.2.1 a.2.2.1 a.2.2.2 (Sts.ofL l)
theorem Sts.to_of : ∀ l, (Sts.ofL l).toL = l
 | [] => rfl
 | a :: l => by simp [Sts.ofL, Sts.toL, Sts.to_of l]
theorem Sts.wt_of : ∀ l, (Sts.ofL l).wt = (l.map (fun a : SB => (a.1.name.size + a.1.sign.size + a.2.1.wt + a.2.2.1.wt + a.2.2.2.wt) + 1)).sum
 | [] => rfl
 | a :: l => by simp only [Sts.ofL, Sts.wt, List.map_cons, List.sum_cons, Sts.wt_of l]; omega
theorem Sts.rg_of : ∀ l, (∀ a : SB, a ∈ l → a.2.1.Rg ∧ a.2.2.1.Rg ∧ a.2.2.2.Rg) → (Sts.ofL l).Rg
 | [], _ => trivial
 | a :: l, h => ⟨(h a (by simp)).1, (h a (by simp)).2.1, (h a (by simp)).2.2, Sts.rg_of l (fun b hb => h b (by simp [hb]))⟩
theorem SlR.each {α : Type} {w : World} {o : Option (Nat → Prop)} {t : TypeId} {n : Nat} {R : α → Nat → Nat → Prop} {l : List α} {v : Value} (h : SlR w o t n R l v) (G : α → Prop) (hG : ∀ a b q, R a b q → G a) : ∀ a ∈ l, G a := by
 obtain ⟨ka, kb, koff, kcap, rfl, y2, y3⟩ := h
 intro a ha
 obtain ⟨i, hi, rfl⟩ := List.getElem_of_mem ha
 exact hG _ _ _ (y3 i hi)
section
variable {H : Type} {enc : TypeId × Value → H} {w : World}
theorem exs_open : ∀ (fuel : Nat) (v : Value) (y : DataW H × List MemPlace), DataW.trod enc Tryz.prog w 0 (fun _ => true) true fuel 107 [v] = some y → ∃ l : Exs, SlE w true none l v ∧ l.wt + 1 ≤ Rows.uptoBulk y.1 ∧ l.Rg := by
 intro fuel
 induction fuel using Nat.strongRecOn with
 | ind fuel ih =>
  intro v y h
  obtain ⟨l, h1, h2⟩ := rows_list Tryz.underlying107 cells134 (by decide) (fun a b q => ExpR w true none a b q ∧ U32 a.1.word ∧ a.2.Rg) (fun a => a.1.name.size + a.1.sign.size + a.2.wt) (fun n cs z b q hn hl hc ht => by
   obtain ⟨xs, m, hm, hx, _, hxs, hf⟩ := DataW.trod_struct Tryz.underlying134 ht
   match cs, hl with
   | [c0, c1, c2, c3, c4, c5, c6], _ =>
    match xs, hxs with
    | [x0, x1, x2, x3, x4, x5, x6], _ =>
     obtain ⟨y0, rfl, -⟩ := fld_int Tryz.underlying3 (fld hf 0 _ rfl [c0] (by kernel_rfl) 3 rfl x0 rfl)
     obtain ⟨y1, rfl, -⟩ := fld_int Tryz.underlying132 (fld hf 1 _ rfl [c1] (by kernel_rfl) 132 rfl x1 rfl)
     obtain ⟨y2, rfl, w2⟩ := fld_int Tryz.underlying52 (fld hf 2 _ rfl [c2] (by kernel_rfl) 52 rfl x2 rfl)
     obtain ⟨y3, rfl, -⟩ := fld_int Tryz.underlying40 (fld hf 3 _ rfl [c3] (by kernel_rfl) 40 rfl x3 rfl)
     obtain ⟨y4, rfl, s4⟩ := fld_str Tryz.underlying9 (fld hf 4 _ rfl [c4] (by kernel_rfl) 9 rfl x4 rfl)
     obtain ⟨y5, rfl, s5⟩ := fld_str Tryz.underlying9 (fld hf 5 _ rfl [c5] (by kernel_rfl) 9 rfl x5 rfl)
     obtain ⟨kids, hk, hs, hg⟩ := ih m (by omega) c6 x6 (fld hf 6 _ rfl [c6] (by kernel_rfl) 107 rfl x6 rfl)
     refine ⟨(⟨y0, y1, y2, y3, y4, y5⟩, kids), ⟨⟨⟨⟨y0, hc 0 (by omega), fun _ => rfl⟩, hc 1 (by omega), hc 2 (by omega), hc 3 (by omega), hc 4 (by omega), hc 5 (by omega)⟩, ⟨c6, hc 6 (by omega), hk⟩⟩, u32_of w2, hg⟩, ?_⟩
     rw [hx]
     simp only [Rows.uptoBulk, Rows.uptoBulkAll, List.map_cons, List.map_nil]
     omega) h
  refine ⟨Exs.ofL l, SlE_iff.2 (by rw [Exs.to_of]; exact h1.same (fun _ _ _ h => h.1)), by rw [Exs.wt_of]; exact h2, Exs.rg_of l (h1.each _ (fun a b q h => h.2))⟩
theorem sts_open : ∀ (fuel : Nat) (v : Value) (y : DataW H × List MemPlace), DataW.trod enc Tryz.prog w 0 (fun _ => true) true fuel 41 [v] = some y → ∃ l : Sts, SlS w true none l v ∧ l.wt + 1 ≤ Rows.uptoBulk y.1 ∧ l.Rg := by
 intro fuel
 induction fuel using Nat.strongRecOn with
 | ind fuel ih =>
  intro v y h
  obtain ⟨l, h1, h2⟩ := rows_list Tryz.underlying41 cells109 (by decide) (fun (a : SB) b q => StmR w true none a b q ∧ a.2.1.Rg ∧ a.2.2.1.Rg ∧ a.2.2.2.Rg) (fun a : SB => a.1.name.size + a.1.sign.size + a.2.1.wt + a.2.2.1.wt + a.2.2.2.wt) (fun n cs z b q hn hl hc ht => by
   obtain ⟨xs, m, hm, hx, _, hxs, hf⟩ := DataW.trod_struct Tryz.underlying109 ht
   match cs, hl with
   | [c0, c1, c2, c3, c4, c5, c6, c7], _ =>
    match xs, hxs with
    | [x0, x1, x2, x3, x4, x5, x6, x7], _ =>
     obtain ⟨y0, rfl, -⟩ := fld_int Tryz.underlying3 (fld hf 0 _ rfl [c0] (by kernel_rfl) 3 rfl x0 rfl)
     obtain ⟨y1, rfl, -⟩ := fld_int Tryz.underlying106 (fld hf 1 _ rfl [c1] (by kernel_rfl) 106 rfl x1 rfl)
     obtain ⟨y2, rfl, s2⟩ := fld_str Tryz.underlying9 (fld hf 2 _ rfl [c2] (by kernel_rfl) 9 rfl x2 rfl)
     obtain ⟨y3, rfl, -⟩ := fld_int Tryz.underlying40 (fld hf 3 _ rfl [c3] (by kernel_rfl) 40 rfl x3 rfl)
     obtain ⟨y4, rfl, s4⟩ := fld_str Tryz.underlying9 (fld hf 4 _ rfl [c4] (by kernel_rfl) 9 rfl x4 rfl)
     obtain ⟨ex, hk5, hs5, hg5⟩ := exs_open m c5 x5 (fld hf 5 _ rfl [c5] (by kernel_rfl) 107 rfl x5 rfl)
     obtain ⟨body, hk6, hs6, hg6⟩ := ih m (by omega) c6 x6 (fld hf 6 _ rfl [c6] (by kernel_rfl) 41 rfl x6 rfl)
     obtain ⟨els, hk7, hs7, hg7⟩ := ih m (by omega) c7 x7 (fld hf 7 _ rfl [c7] (by kernel_rfl) 41 rfl x7 rfl)
     refine ⟨(⟨y0, y1, y2, y3, y4⟩, ex, body, els), ⟨⟨⟨⟨y0, hc 0 (by omega), fun _ => rfl⟩, hc 1 (by omega), hc 2 (by omega), hc 3 (by omega), hc 4 (by omega)⟩, ⟨c5, hc 5 (by omega), hk5⟩, ⟨c6, hc 6 (by omega), hk6⟩, ⟨c7, hc 7 (by omega), hk7⟩⟩, hg5, hg6, hg7⟩, ?_⟩
     rw [hx]
     simp only [Rows.uptoBulk, Rows.uptoBulkAll, List.map_cons, List.map_nil]
     omega) h
  refine ⟨Sts.ofL l, SlS_iff.2 (by rw [Sts.to_of]; exact h1.same (fun _ _ _ h => h.1)), by rw [Sts.wt_of]; exact h2, Sts.rg_of l (h1.each _ (fun a b q h => h.2))⟩
theorem sum_len {α : Type} (μ : α → Nat) : ∀ l : List α, l.length ≤ (l.map (fun a => μ a + 1)).sum
 | [] => Nat.le_refl _
 | a :: l => by have := sum_len μ l; simp only [List.map_cons, List.sum_cons, List.length_cons]; omega
theorem sum_mem {α : Type} (μ : α → Nat) : ∀ (l : List α) (a : α), a ∈ l → μ a + 1 ≤ (l.map (fun a => μ a + 1)).sum
 | b :: l, a, h => by
  simp only [List.map_cons, List.sum_cons]
  rcases List.mem_cons.1 h with rfl | h'
  ·omega
  ·have := sum_mem μ l a h'; omega
def ptot (l : List PW) : Nat := (l.map (fun a : PW => a.1.size + 1)).sum
theorem ptot_len (l : List PW) : l.length ≤ ptot l := sum_len (fun a : PW => a.1.size) l
theorem ptot_mem (l : List PW) (a : PW) (h : a ∈ l) : a.1.size + 1 ≤ ptot l := sum_mem (fun a : PW => a.1.size) l a h
theorem pars_open (fuel : Nat) (v : Value) (y : DataW H × List MemPlace) (h : DataW.trod enc Tryz.prog w 0 (fun _ => true) true fuel 39 [v] = some y) : ∃ l : List PW, SlPz w none l v ∧ ptot l + 1 ≤ Rows.uptoBulk y.1 := by
 obtain ⟨l, h1, h2⟩ := rows_list Tryz.underlying39 cells46 (by decide) (ParR w) (fun a => a.1.size) (fun n cs z b q hn hl hc ht => by
  obtain ⟨xs, m, hm, hx, _, hxs, hf⟩ := DataW.trod_struct Tryz.underlying46 ht
  match cs, hl with
  | [c0, c1], _ =>
   match xs, hxs with
   | [x0, x1], _ =>
    obtain ⟨y0, rfl, s0⟩ := fld_str Tryz.underlying9 (fld hf 0 _ rfl [c0] (by kernel_rfl) 9 rfl x0 rfl)
    obtain ⟨y1, rfl, -⟩ := fld_int Tryz.underlying40 (fld hf 1 _ rfl [c1] (by kernel_rfl) 40 rfl x1 rfl)
    refine ⟨(y0, y1), ⟨hc 0 (by omega), hc 1 (by omega)⟩, ?_⟩
    rw [hx]
    simp only [Rows.uptoBulk, Rows.uptoBulkAll, List.map_cons, List.map_nil]
    omega) h
 exact ⟨l, h1, h2⟩
theorem glos_open (fuel : Nat) (v : Value) (y : DataW H × List MemPlace) (h : DataW.trod enc Tryz.prog w 0 (fun _ => true) true fuel 22 [v] = some y) : ∃ l : List GH, SlG w true none l v ∧ l.length + 1 ≤ Rows.uptoBulk y.1 ∧ ∀ a ∈ l, a.name.size + 1 ≤ Rows.uptoBulk y.1 ∧ (U32 a.word ∧ U32 a.len) := by
 obtain ⟨l, h1, h2⟩ := rows_list Tryz.underlying22 cells105 (by decide) (fun a b q => GloR w true a b q ∧ (U32 a.word ∧ U32 a.len)) (fun a => a.name.size) (fun n cs z b q hn hl hc ht => by
  obtain ⟨xs, m, hm, hx, _, hxs, hf⟩ := DataW.trod_struct Tryz.underlying105 ht
  match cs, hl with
  | [c0, c1, c2, c3, c4], _ =>
   match xs, hxs with
   | [x0, x1, x2, x3, x4], _ =>
    obtain ⟨y0, rfl, -⟩ := fld_int Tryz.underlying3 (fld hf 0 _ rfl [c0] (by kernel_rfl) 3 rfl x0 rfl)
    obtain ⟨y1, rfl, s1⟩ := fld_str Tryz.underlying9 (fld hf 1 _ rfl [c1] (by kernel_rfl) 9 rfl x1 rfl)
    obtain ⟨y2, rfl, -⟩ := fld_int Tryz.underlying40 (fld hf 2 _ rfl [c2] (by kernel_rfl) 40 rfl x2 rfl)
    obtain ⟨y3, rfl, w3⟩ := fld_int Tryz.underlying52 (fld hf 3 _ rfl [c3] (by kernel_rfl) 52 rfl x3 rfl)
    obtain ⟨y4, rfl, w4⟩ := fld_int Tryz.underlying52 (fld hf 4 _ rfl [c4] (by kernel_rfl) 52 rfl x4 rfl)
    refine ⟨⟨y0, y1, y2, y3, y4⟩, ⟨⟨⟨y0, hc 0 (by omega), fun _ => rfl⟩, hc 1 (by omega), hc 2 (by omega), hc 3 (by omega), hc 4 (by omega)⟩, u32_of w4, u32_of w3⟩, ?_⟩
    rw [hx]
    simp only [Rows.uptoBulk, Rows.uptoBulkAll, List.map_cons, List.map_nil]
    omega) h
 exact ⟨l, h1.same (fun _ _ _ h => h.1), by have := sum_len (fun a : GH => a.name.size) l; omega, fun a ha => ⟨by have := sum_mem (fun a : GH => a.name.size) l a ha; omega, h1.each (fun a : GH => U32 a.word ∧ U32 a.len) (fun a b q h => h.2) a ha⟩⟩
theorem hoss_open (fuel : Nat) (v : Value) (y : DataW H × List MemPlace) (h : DataW.trod enc Tryz.prog w 0 (fun _ => true) true fuel 23 [v] = some y) : ∃ l : List HH, SlH w true none l v ∧ l.length + 1 ≤ Rows.uptoBulk y.1 ∧ ∀ a ∈ l, a.name.size + ptot a.params + 1 ≤ Rows.uptoBulk y.1 := by
 obtain ⟨l, h1, h2⟩ := rows_list Tryz.underlying23 cells101 (by decide) (HosR w true none) (fun a => a.name.size + ptot a.params) (fun n cs z b q hn hl hc ht => by
  obtain ⟨xs, m, hm, hx, _, hxs, hf⟩ := DataW.trod_struct Tryz.underlying101 ht
  match cs, hl with
  | [c0, c1, c2, c3, c4], _ =>
   match xs, hxs with
   | [x0, x1, x2, x3, x4], _ =>
    obtain ⟨y0, rfl, -⟩ := fld_int Tryz.underlying3 (fld hf 0 _ rfl [c0] (by kernel_rfl) 3 rfl x0 rfl)
    obtain ⟨y1, rfl, s1⟩ := fld_str Tryz.underlying9 (fld hf 1 _ rfl [c1] (by kernel_rfl) 9 rfl x1 rfl)
    obtain ⟨ps, hp, hs⟩ := pars_open m c2 x2 (fld hf 2 _ rfl [c2] (by kernel_rfl) 39 rfl x2 rfl)
    obtain ⟨y3, rfl, -⟩ := fld_int Tryz.underlying40 (fld hf 3 _ rfl [c3] (by kernel_rfl) 40 rfl x3 rfl)
    obtain ⟨y4, rfl, -⟩ := fld_int Tryz.underlying52 (fld hf 4 _ rfl [c4] (by kernel_rfl) 52 rfl x4 rfl)
    refine ⟨⟨y0, y1, ps, y3, y4⟩, ⟨⟨y0, hc 0 (by omega), fun _ => rfl⟩, hc 1 (by omega), ⟨c2, hc 2 (by omega), hp⟩, hc 3 (by omega), hc 4 (by omega)⟩, ?_⟩
    rw [hx]
    simp only [Rows.uptoBulk, Rows.uptoBulkAll, List.map_cons, List.map_nil]
    omega) h
 exact ⟨l, h1, by have := sum_len (fun a : HH => a.name.size + ptot a.params) l; omega, fun a ha => by have := sum_mem (fun a : HH => a.name.size + ptot a.params) l a ha; omega⟩
theorem funs_open (fuel : Nat) (v : Value) (y : DataW H × List MemPlace) (h : DataW.trod enc Tryz.prog w 0 (fun _ => true) true fuel 24 [v] = some y) : ∃ l : List FH, SlF w true none l v ∧ l.length + 1 ≤ Rows.uptoBulk y.1 ∧ ∀ a ∈ l, a.name.size + ptot a.params + a.body.wt + 1 ≤ Rows.uptoBulk y.1 ∧ a.body.Rg := by
 obtain ⟨l, h1, h2⟩ := rows_list Tryz.underlying24 cells43 (by decide) (fun a b q => FunR w true none a b q ∧ a.body.Rg) (fun a => a.name.size + ptot a.params + a.body.wt) (fun n cs z b q hn hl hc ht => by
  obtain ⟨xs, m, hm, hx, _, hxs, hf⟩ := DataW.trod_struct Tryz.underlying43 ht
  match cs, hl with
  | [c0, c1, c2, c3, c4, c5], _ =>
   match xs, hxs with
   | [x0, x1, x2, x3, x4, x5], _ =>
    obtain ⟨y0, rfl, -⟩ := fld_int Tryz.underlying3 (fld hf 0 _ rfl [c0] (by kernel_rfl) 3 rfl x0 rfl)
    obtain ⟨y1, rfl, s1⟩ := fld_str Tryz.underlying9 (fld hf 1 _ rfl [c1] (by kernel_rfl) 9 rfl x1 rfl)
    obtain ⟨ps, hp, hs⟩ := pars_open m c2 x2 (fld hf 2 _ rfl [c2] (by kernel_rfl) 39 rfl x2 rfl)
    obtain ⟨y3, rfl, -⟩ := fld_int Tryz.underlying40 (fld hf 3 _ rfl [c3] (by kernel_rfl) 40 rfl x3 rfl)
    obtain ⟨y4, rfl⟩ := fld_bool Tryz.underlying4 (fld hf 4 _ rfl [c4] (by kernel_rfl) 4 rfl x4 rfl)
    obtain ⟨bd, hb, hbs, hbg⟩ := sts_open m c5 x5 (fld hf 5 _ rfl [c5] (by kernel_rfl) 41 rfl x5 rfl)
    refine ⟨⟨y0, y1, ps, y3, y4, bd⟩, ⟨⟨⟨y0, hc 0 (by omega), fun _ => rfl⟩, hc 1 (by omega), ⟨c2, hc 2 (by omega), hp⟩, hc 3 (by omega), hc 4 (by omega), ⟨c5, hc 5 (by omega), hb⟩⟩, hbg⟩, ?_⟩
    rw [hx]
    simp only [Rows.uptoBulk, Rows.uptoBulkAll, List.map_cons, List.map_nil]
    omega) h
 exact ⟨l, h1.same (fun _ _ _ h => h.1), by have := sum_len (fun a : FH => a.name.size + ptot a.params + a.body.wt) l; omega, fun a ha => ⟨by have := sum_mem (fun a : FH => a.name.size + ptot a.params + a.body.wt) l a ha; omega, h1.each (fun a : FH => a.body.Rg) (fun a b q h => h.2) a ha⟩⟩
theorem unit_open {base : Nat} {v : Value} {d : DataW H} {p : List MemPlace} (hval : Value.okWide Tryz.prog w .any base 26 v) (h : DataW.Trod enc Tryz.prog w 0 (fun _ => true) true 26 v d p) (hs : Rows.uptoBulk d ≤ 1048576) : ∃ u : UT, UIn w true none u v ∧ (u.Ok ∧ u.Wf) ∧ ∀ x ∈ u.gs, U32 x.len := by
 simp only [Value.okWide, Tryz.underlying26] at hval
 obtain ⟨cs, rfl, hsz, -⟩ := hval
 obtain ⟨fuel, h⟩ := h
 obtain ⟨xs, m, hm, hx, hl, hxs, hf⟩ := DataW.trod_struct Tryz.underlying26 h
 have hc3 : cs.size = 3 := hsz.trans (by kernel_rfl)
 obtain ⟨cl⟩ := cs
 have hl3 : cl.length = 3 := hc3
 simp only [Value.cells] at hf
 match cl, hl3 with
 | [c0, c1, c2], _ =>
  match xs, hxs with
  | [x0, x1, x2], _ =>
   obtain ⟨gs, g1, g2, g3⟩ := glos_open m c0 x0 (fld hf 0 _ rfl [c0] (by kernel_rfl) 22 rfl x0 rfl)
   obtain ⟨hs', h1, h2, h3⟩ := hoss_open m c1 x1 (fld hf 1 _ rfl [c1] (by kernel_rfl) 23 rfl x1 rfl)
   obtain ⟨fs, f1, f2, f3⟩ := funs_open m c2 x2 (fld hf 2 _ rfl [c2] (by kernel_rfl) 24 rfl x2 rfl)
   simp only [Prod.mk.injEq] at hx
   rw [hx.1] at hs
   simp only [Rows.uptoBulk, Rows.uptoBulkAll, List.map_cons, List.map_nil] at hs
   refine ⟨⟨gs, hs', fs⟩, ⟨c0, c1, c2, rfl, g1, h1, f1⟩, ⟨⟨by show gs.length ≤ _; omega, by show hs'.length ≤ _; omega, by show fs.length ≤ _; omega, fun x hx => by have := (h3 x hx); have := ptot_len x.params; omega, fun x hx => by have := (f3 x hx).1; have := ptot_len x.params; omega, fun x hx => by have := (f3 x hx).1; have := x.body.sz_wt; omega⟩, ?_⟩, fun x hx => (g3 x hx).2.2⟩
   exact ⟨fun x hx => ⟨by have := (g3 x hx).1; omega, (g3 x hx).2.1⟩, fun x hx => ⟨by have := h3 x hx; omega, fun a ha => by have := h3 x hx; have := ptot_mem x.params a ha; omega⟩, fun x hx => ⟨by have := (f3 x hx).1; omega, fun a ha => by have := (f3 x hx).1; have := ptot_mem x.params a ha; omega, Sts.wf_of _ (by have := (f3 x hx).1; omega) (f3 x hx).2⟩⟩
theorem words_open (fuel : Nat) (v : Value) (y : DataW H × List MemPlace) (h : DataW.trod enc Tryz.prog w 0 (fun _ => true) true fuel 27 [v] = some y) : ∃ l : List Int, RowA w l v ∧ (∀ x ∈ l, U x) ∧ l.length + 1 ≤ Rows.uptoBulk y.1 := by
 obtain ⟨l, h1, h2⟩ := rows_list Tryz.underlying27 cells52 (by decide) (fun (a : Int) b q => w.cell? ⟨b, q, none⟩ = some (.int .u32 a) ∧ U32 a) (fun _ => 0) (fun n cs z b q hn hl hc ht => by
  match cs, hl with
  | [c0], _ =>
   obtain ⟨y0, rfl, w0⟩ := fld_int Tryz.underlying52 ht
   exact ⟨y0, ⟨hc 0 (by omega), u32_of w0⟩, bulk_one _⟩) h
 have h3 := h1.each (fun a : Int => U32 a) (fun a b q h => h.2)
 have h4 := sum_len (fun _ : Int => 0) l
 obtain ⟨ka, kb, koff, kcap, rfl, y2, y3⟩ := h1
 refine ⟨l, ⟨ka, kb, koff, kcap, rfl, y2.imp (fun q => q.1) (fun q => q.1), fun i hi => by have := (y3 i hi).1; rwa [Nat.mul_one] at this⟩, fun x hx => h3 x hx, by omega⟩
theorem ask_open {base : Nat} {v : Value} {d : DataW H} {p : List MemPlace} (hval : Value.okWide Tryz.prog w .any base 29 v) (h : DataW.Trod enc Tryz.prog w 0 (fun _ => true) true 29 v d p) (hs : Rows.uptoBulk d ≤ 1048576) :
  ∃ (nm : ByteArray) (va vv vl : Value) (st mo : Int) (args values later : List Int), v = .agg #[.string nm, va, .int .i64 st, .int .i64 mo, vv, vl] ∧ (-9223372036854775808 ≤ st ∧ st ≤ 9223372036854775807) ∧ (-9223372036854775808 ≤ mo ∧ mo ≤ 9223372036854775807) ∧ nm.size ≤ 1048576 ∧
   (RowA w args va ∧ RowA w values vv ∧ RowA w later vl) ∧ ((∀ x ∈ args, U x) ∧ (∀ x ∈ values, U x) ∧ ∀ x ∈ later, U x) ∧ args.length ≤ 1048576 ∧ values.length ≤ 1048576 ∧ later.length ≤ 1048576 := by
 simp only [Value.okWide, Tryz.underlying29] at hval
 obtain ⟨cs, rfl, hsz, -⟩ := hval
 obtain ⟨fuel, h⟩ := h
 obtain ⟨xs, m, hm, hx, hl, hxs, hf⟩ := DataW.trod_struct Tryz.underlying29 h
 have hc3 : cs.size = 6 := hsz.trans (by kernel_rfl)
 obtain ⟨cl⟩ := cs
 have hl3 : cl.length = 6 := hc3
 simp only [Value.cells] at hf
 match cl, hl3 with
 | [c0, c1, c2, c3, c4, c5], _ =>
  match xs, hxs with
  | [x0, x1, x2, x3, x4, x5], _ =>
   obtain ⟨nm, rfl, s0⟩ := fld_str Tryz.underlying9 (fld hf 0 _ rfl [c0] (by kernel_rfl) 9 rfl x0 rfl)
   obtain ⟨args, a1, a2, a3⟩ := words_open m c1 x1 (fld hf 1 _ rfl [c1] (by kernel_rfl) 27 rfl x1 rfl)
   obtain ⟨st, rfl, w2⟩ := fld_int Tryz.underlying3 (fld hf 2 _ rfl [c2] (by kernel_rfl) 3 rfl x2 rfl)
   obtain ⟨mo, rfl, w3⟩ := fld_int Tryz.underlying3 (fld hf 3 _ rfl [c3] (by kernel_rfl) 3 rfl x3 rfl)
   obtain ⟨values, b1, b2, b3⟩ := words_open m c4 x4 (fld hf 4 _ rfl [c4] (by kernel_rfl) 27 rfl x4 rfl)
   obtain ⟨later, e1, e2, e3⟩ := words_open m c5 x5 (fld hf 5 _ rfl [c5] (by kernel_rfl) 27 rfl x5 rfl)
   simp only [Prod.mk.injEq] at hx
   rw [hx.1] at hs
   simp only [Rows.uptoBulk, Rows.uptoBulkAll, List.map_cons, List.map_nil] at hs
   have i2 := wf_i64.1 w2
   have i3 := wf_i64.1 w3
   exact ⟨nm, c1, c4, c5, st, mo, args, values, later, rfl, by omega, by omega, by omega, ⟨a1, b1, e1⟩, ⟨a2, b2, e2⟩, by omega, by omega, by omega⟩
end
end
end Go.Proofs.YtlabadkfkbenoaaGreatDoor
