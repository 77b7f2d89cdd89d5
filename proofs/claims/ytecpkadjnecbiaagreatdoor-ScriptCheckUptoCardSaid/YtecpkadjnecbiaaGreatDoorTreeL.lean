/- Walks: few: it answers, and turns its counter alone. -/
import Derived.Test.YtecpkadjnecbiaaGreatDoorTreeH
import Derived.OneCell
import Derived.RegionTactic
import Derived.ChangeAlike
namespace Go.Proofs.YtecpkadjnecbiaaGreatDoor
open Go.RowKit
set_option linter.unusedVariables false
set_option linter.unusedSimpArgs false

/-- the counter -/
def Cnt (pb : Nat) (m : Int) (w : World) : Prop := w.heap[pb]? = some (.cells #[.int .i64 m] 3 (0, 0))
theorem Cnt.cell {pb : Nat} {m : Int} {w : World} (h : Cnt pb m w) : w.cell? ⟨pb, 0, none⟩ = some (.int .i64 m) := cell_of_one h
theorem Cnt.free {pb : Nat} {m : Int} {w : World} (h : Cnt pb m w) : w.frozen? ⟨pb, 0, none⟩ = false := free_of_one h
theorem Cnt.lt {pb : Nat} {m : Int} {w : World} (h : Cnt pb m w) : pb < w.heap.size := lt_of_block h
theorem Cnt.set {pb : Nat} {m : Int} {w : World} (h : Cnt pb m w) (x : Int) : Cnt pb x (w.setCell ⟨pb, 0, none⟩ (.int .i64 x)) := one_setCell h
theorem Cnt.alloc {pb : Nat} {m : Int} {w : World} (h : Cnt pb m w) (o : Obj) : Cnt pb m (w.alloc o) := (Below.heap_alloc _ _ _ h.lt).trans h
theorem Cnt.drew {pb : Nat} {m : Int} {w : World} (h : Cnt pb m w) : Cnt pb m w.drew := h
theorem grown_set {w w' : World} {pb : Nat} (h : w.grownBy w' (some pb)) (x : Value) : w.grownBy (w'.setCell ⟨pb, 0, none⟩ x) (some pb) :=
  grown_trans h ⟨rfl, rfl, rfl, by simp [World.setCell], fun k _ hk => Below.heap_setCell _ _ _ _ (fun e => hk (by rw [e]))⟩
theorem grown_alloc' {w w' : World} {row : Option Nat} (h : w.grownBy w' row) (o : Obj) : w.grownBy (w'.alloc o) row := grown_trans h (World.grownBy_alloc w' o row)
theorem grown_drew' {w w' : World} {row : Option Nat} (h : w.grownBy w' row) : w.grownBy w'.drew row := grown_trans h (grownBy_drew w' row)
/-- what stands at the end of few's parts -/
def FewPost (w : World) (pb : Nat) (e : Ending) (w' : World) : Prop := ∃ (b : Bool) (m : Int), e = .returned (.bool b) ∧ Cnt pb m w' ∧ w.grownBy w' (some pb)
/-- the tree's world w0, the counter above it -/
structure Few (w0 w : World) (pb : Nat) : Prop where
  below : Below w0.heap.size w0 w
  above : w0.heap.size ≤ pb
theorem Few.step {w0 w w' : World} {pb : Nat} (h : Few w0 w pb) (hg : w.grownBy w' (some pb)) : Few w0 w' pb :=
  ⟨h.below.grown hg h.below.size (fun k hk => by cases hk; exact h.above), h.above⟩

set_option maxHeartbeats 1000000 in
set_option maxRecDepth 100000 in
theorem few54 : ∀ (n : Nat) (t : Int) (h : EH) (kids : Exs) (v : Value) (pb : Nat) (m : Int) (w0 w : World), kids.sz < n → kids.sz ≤ 100000000 → SlE w0 false none kids v → Few w0 w pb → Cnt pb m w →
    Calls Tryz.prog 26 #[aggE t h v, .pointer (some ⟨pb, 0, none⟩)] w (FewPost w pb) := by
  intro n
  induction n with
  | zero => intro t h kids v pb m w0 w hn; omega
  | succ n ih =>
    have IH := hid ih
    clear ih
    intro t h kids v pb m w0 w hn hs hv hF hC
    obtain ⟨ka, b, off, c, rfl, hka, hin⟩ := hv
    have hl := kids.len_le
    have hS := hid (And.intro hn hs)
    have hF0 := hid hF
    have hI := hid hin
    have hkb : kids.len ≤ 100000000 := by omega
    have hc1 := hC.cell
    have hc2 := hC.free
    have hlt := hC.lt
    have hC0 := hid hC
    obtain ⟨a0, a1, a2, a3, a4, a5⟩ := h
    clear hn hs hF hin hl hC
    go_enter Tryz.func26, Tryz.ntmps26
    go_wp2_with fail
    · go_ret
      exact ⟨_, _, rfl, (hC0.out.set _).alloc _, grown_alloc' (grown_set (grown_refl _ _) _) _⟩
    · go_loopw [4, 5] (fun z i wr => ∃ (k : Nat) (r : Exs) (x : Int), z = .bool false ∧ k + r.len = kids.len ∧ i = .int .i64 k ∧ ExsIn w0 false none r b off k ∧ r.sz ≤ kids.sz ∧ Cnt pb x wr ∧ wr.cell? ⟨w.heap.size, 6, none⟩ = some (.slice ka kids.len c) ∧ w.grownBy wr (some pb)) (fun _ i _ => kids.len - (intOf i).toNat)
      case atStart => exact ⟨0, kids, _, rfl, by omega, rfl, hI.out, Nat.le_refl _, (hC0.out.set _).alloc _, by go_simp, grown_alloc' (grown_set (grown_refl _ _) _) _⟩
      case round =>
        clear hI hc1 hc2
        obtain ⟨k, r, x, rfl, hk, rfl, hr, hz, hC, hbox, hg⟩ := hrel
        have hX := hid (And.intro hC hg)
        cases r with
        | nil =>
          simp only [Exs.len, Nat.add_zero] at hk
          subst hk
          clear hr hz hC hg
          go_wp2_with fail
          go_ret
          exact ⟨_, _, rfl, hX.out.1, hX.out.2⟩
        | cons h' kids' rest =>
          simp only [Exs.len, Exs.sz] at hk hz
          have hF := hF0.out.step hg
          obtain ⟨⟨⟨t', y0, _⟩, y1, y2, y3, y4, y5⟩, ⟨u, y6, hu⟩, hR⟩ := hr.cons
          have x0 := cell_on y0 hF.below
          have x1 := cell_on y1 hF.below
          have x2 := cell_on y2 hF.below
          have x3 := cell_on y3 hF.below
          have x4 := cell_on y4 hF.below
          have x5 := cell_on y5 hF.below
          have x6 := cell_on y6 hF.below
          have hkk : k < kids.len := by omega
          have hka2 : ka = some ⟨b, off, none⟩ := by rcases hka with q | q; (· omega); (· exact q.1)
          subst hka2
          have hCall := hid (IH.out t' h' kids' u pb x w0 wr (by have := hS.out; omega) (by have := hS.out; omega) hu hF hC)
          have hRR := hid (And.intro hR hz)
          have hbox0 := hid hbox
          have hwlt : w.heap.size ≠ pb := by omega
          clear hka hr hu hR hz hC hg hF y0 y1 y2 y3 y4 y5 y6
          go_wp2_with fail
          refine hCall.out.mono ?_
          rintro e w2 ⟨b2, m2, rfl, hc2, hg2⟩
          have hbox2 := hg2.cell hbox0.out (by simp; omega)
          have hX2 := hid (And.intro hc2 hg2)
          clear hc2 hg2 hCall x0 x1 x2 x3 x4 x5 x6 hbox
          cases b2
          · go_wp2_with fail
            go_ret
            exact ⟨_, _, rfl, hX2.out.1, grown_trans hX.out.2 hX2.out.2⟩
          · go_wp2_with fail
            go_roundw
            case rel => exact ⟨k + 1, rest, m2, rfl, by omega, by go_num, hRR.out.1, by have := hRR.out.2; omega, hX2.out.1, hbox2, grown_trans hX.out.2 hX2.out.2⟩
            case measure => simp [intOf]; omega

set_option maxHeartbeats 2000000 in
set_option maxRecDepth 100000 in
theorem few35 : ∀ (n : Nat) (l : Sts) (v : Value) (pb : Nat) (m : Int) (w0 w : World), l.sz < n → l.sz ≤ 100000000 → SlS w0 false none l v → Few w0 w pb → Cnt pb m w →
    Calls Tryz.prog 10 #[v, .pointer (some ⟨pb, 0, none⟩)] w (FewPost w pb) := by
  intro n
  induction n with
  | zero => intro l v pb m w0 w hn; omega
  | succ n ih =>
    have IH := hid ih
    clear ih
    intro l v pb m w0 w hn hs hv hF hC
    obtain ⟨ka, b, off, c, rfl, hka, hin⟩ := hv
    have hl := l.len_le
    have hS := hid (And.intro hn hs)
    have hF0 := hid hF
    have hI := hid hin
    have hkb : l.len ≤ 100000000 := by omega
    have hC0 := hid hC
    clear hn hs hF hin hl hC
    go_enter Tryz.func10, Tryz.ntmps10
    go_wp2_with fail
    go_loopw [4, 5] (fun z i wr => ∃ (k : Nat) (r : Sts) (x : Int), z = .bool false ∧ k + r.len = l.len ∧ i = .int .i64 k ∧ StsIn w0 false none r b off k ∧ r.sz ≤ l.sz ∧ Cnt pb x wr ∧ w.grownBy wr (some pb)) (fun _ i _ => l.len - (intOf i).toNat)
    case atStart => exact ⟨0, l, _, rfl, by omega, rfl, hI.out, Nat.le_refl _, hC0.out, grown_refl _ _⟩
    case round =>
      clear hI
      obtain ⟨k, r, x, rfl, hk, rfl, hr, hz, hC, hg⟩ := hrel
      obtain ⟨wo, rfl⟩ : ∃ wo : World, wo = wr := ⟨_, rfl⟩
      have hX := hid (And.intro hC hg)
      cases r with
      | nil =>
        simp only [Sts.len, Nat.add_zero] at hk
        subst hk
        clear hr hz hC hg
        go_wp2_with fail
        go_ret
        exact ⟨_, _, rfl, hX.out.1, hX.out.2⟩
      | cons h' ex body els rest =>
        simp only [Sts.len, Sts.sz] at hk hz
        have hF := hF0.out.step hg
        obtain ⟨⟨⟨t', y0, _⟩, y1, y2, y3, y4⟩, ⟨vx, y5, hvx⟩, ⟨vb, y6, hvb⟩, ⟨ve, y7, hve⟩, hR⟩ := hr.cons
        have hkk : k < l.len := by omega
        have hka2 : ka = some ⟨b, off, none⟩ := by rcases hka with q | q; (· omega); (· exact q.1)
        subst hka2
        have hc1 := hC.cell
        have hc2 := hC.free
        have hlt := hC.lt
        have hblt : b < w0.heap.size := World.block_lt_of_cell? w0 _ y1
        have hbn : b ≠ pb := by have := hF.above; omega
        obtain ⟨xa, xb, xo, xc, rfl, hxa, hxin⟩ := hvx
        have hxl := ex.len_le
        have hxb : ex.len ≤ 100000000 := by have := hS.out; omega
        have hXI := hid hxin
        have hZZ := hid hz
        have hYY := hid (And.intro y6 y7)
        have hVV := hid (And.intro hvb hve)
        have hRR := hid hR
        have x5 := cell_on y5 hF.below
        clear hxin hka hr hvb hve hR hz hC hg y0 y1 y2 y3 y4 y6 y7
        go_wp2_with fail
        · go_ret
          exact ⟨_, _, rfl, hX.out.1.set _, grown_set hX.out.2 _⟩
        · clear hc1 hc2
          go_loopw [4, 6] (fun z i wr => ∃ (j : Nat) (q : Exs) (y : Int), z = .bool false ∧ j + q.len = ex.len ∧ i = .int .i64 j ∧ ExsIn w0 false none q xb xo j ∧ q.sz ≤ ex.sz ∧ Cnt pb y wr ∧ w.grownBy wr (some pb)) (fun _ i _ => ex.len - (intOf i).toNat)
          case atStart => exact ⟨0, ex, _, rfl, by omega, rfl, hXI.out, Nat.le_refl _, hX.out.1.set _, grown_set hX.out.2 _⟩
          case round =>
            clear hXI hX hF x5
            obtain ⟨j, q, y, rfl, hj, rfl, hq, hz, hC, hg⟩ := hrel
            have hX := hid (And.intro hC hg)
            have hF := hF0.out.step hg
            have x5 := cell_on y5 hF.below
            have hc1 := hC.cell
            have hc2 := hC.free
            have hlt := hC.lt
            cases q with
            | nil =>
              simp only [Exs.len, Nat.add_zero] at hj
              subst hj
              have x6 := cell_on hYY.out.1 hF.below
              have x7 := cell_on hYY.out.2 hF.below
              obtain ⟨ba, bn, bc, rfl⟩ := hVV.out.1.shape
              obtain ⟨ea, en, ec, rfl⟩ := hVV.out.2.shape
              have hCall := hid (IH.out body _ pb y w0 wr (by have := hS.out; have := hZZ.out; omega) (by have := hS.out; have := hZZ.out; omega) hVV.out.1 hF hC)
              clear hq hz hC hg hF hc1 hc2
              go_wp2_with fail
              refine hCall.out.mono ?_
              rintro e w2 ⟨b2, m2, rfl, hC2, hg2⟩
              have hX2 := hid (And.intro hC2 (grown_trans hX.out.2 hg2))
              clear hC2 hg2 hCall x5 x6 x7
              cases b2
              · go_wp2_with fail
                go_ret
                exact ⟨_, _, rfl, hX2.out.1, hX2.out.2⟩
              · have hF := hF0.out.step hX2.out.2
                have x7 := cell_on hYY.out.2 hF.below
                have hCall := hid (IH.out els _ pb m2 w0 w2 (by have := hS.out; have := hZZ.out; omega) (by have := hS.out; have := hZZ.out; omega) hVV.out.2 hF hX2.out.1)
                clear hF
                go_wp2_with fail
                refine hCall.out.mono ?_
                rintro e w3 ⟨b3, m3, rfl, hC3, hg3⟩
                have hX3 := hid (And.intro hC3 (grown_trans hX2.out.2 hg3))
                clear hC3 hg3 hCall x7
                cases b3
                · go_wp2_with fail
                  go_ret
                  exact ⟨_, _, rfl, hX3.out.1, hX3.out.2⟩
                · go_wp2_with fail
                  go_roundw
                  case rel => exact ⟨k + 1, rest, m3, rfl, by omega, by go_num, hRR.out, by have := hZZ.out; omega, hX3.out.1, hX3.out.2⟩
                  case measure => simp [intOf]; omega
            | cons h2 kids2 rest2 =>
              simp only [Exs.len, Exs.sz] at hj hz
              obtain ⟨⟨⟨t2, z0, _⟩, z1, z2, z3, z4, z5⟩, ⟨u, z6, hu⟩, hR2⟩ := hq.cons
              have e0 := cell_on z0 hF.below
              have e1 := cell_on z1 hF.below
              have e2 := cell_on z2 hF.below
              have e3 := cell_on z3 hF.below
              have e4 := cell_on z4 hF.below
              have e5 := cell_on z5 hF.below
              have e6 := cell_on z6 hF.below
              have hjj : j < ex.len := by omega
              have hxa2 : xa = some ⟨xb, xo, none⟩ := by rcases hxa with q | q; (· omega); (· exact q.1)
              subst hxa2
              have hCall := hid (few54 _ t2 h2 kids2 u pb y w0 wr (Nat.lt_succ_self _) (by have := hS.out; have := hZZ.out; omega) hu hF hC)
              have hR2R := hid (And.intro hR2 hz)
              clear hxa hq hu hR2 hz hC hg hF hc1 hc2 z0 z1 z2 z3 z4 z5 z6
              go_wp2_with fail
              refine hCall.out.mono ?_
              rintro e w2 ⟨b2, m2, rfl, hC2, hg2⟩
              have hX2 := hid (And.intro hC2 (grown_trans hX.out.2 hg2))
              clear hC2 hg2 hCall x5 e0 e1 e2 e3 e4 e5 e6
              cases b2
              · go_wp2_with fail
                go_ret
                exact ⟨_, _, rfl, hX2.out.1, hX2.out.2⟩
              · go_wp2_with fail
                go_roundw
                case rel => exact ⟨j + 1, rest2, m2, rfl, by omega, by go_num, hR2R.out.1, by have := hR2R.out.2; omega, hX2.out.1, hX2.out.2⟩
                case measure => simp [intOf]; omega

def FewU (w : World) (e : Ending) (w' : World) : Prop := (∃ b : Bool, e = .returned (.bool b)) ∧ Below w.heap.size w w'
/-- the unit boxed, the counter behind it -/
structure FewB (w wr : World) (c : Array Value) (x : Int) : Prop where
  few : Few w wr (w.heap.size + 1)
  cnt : Cnt (w.heap.size + 1) x wr
  box : ∀ i, wr.cell? ⟨w.heap.size, i, none⟩ = c[i]?
theorem FewB.step {w wr w' : World} {c : Array Value} {x y : Int} (h : FewB w wr c x) (hg : wr.grownBy w' (some (w.heap.size + 1))) (hc : Cnt (w.heap.size + 1) y w') : FewB w w' c y where
  few := h.few.step hg
  cnt := hc
  box := fun i => by
    have hlt : w.heap.size < wr.heap.size := by have := h.cnt.lt; omega
    rw [← h.box i]
    exact World.cell?_of_block (hg.block _ hlt (by simp))
theorem FewB.start (w : World) (c : Array Value) (t : TypeId) (x : Int) : FewB w ((w.alloc (.cells c t)).alloc (.cells #[.int .i64 x] 3)) c x where
  few := ⟨below2 _ _ _, by omega⟩
  cnt := by
    have := heap_alloc_new (w.alloc (.cells c t)) (.cells #[.int .i64 x] 3)
    simpa [Cnt] using this
  box := (box_on (Below.refl _ _)).1

set_option maxHeartbeats 2000000 in
set_option maxRecDepth 100000 in
theorem few22 (u : UT) (v : Value) (w : World) (ok : u.Ok) (hv : UIn w false none u v) :
    Calls Tryz.prog 4 #[v] w (FewU w) := by
  obtain ⟨vg, vh, vf, rfl, ⟨ga, gb, go, gc, rfl, gz, gi⟩, ⟨ha, hbk, ho, hc, rfl, hz, hi⟩, ⟨fa, fb, fo, fc, rfl, fz, fi⟩⟩ := hv
  have g1 := ok.g
  have h1 := ok.h
  have f1 := ok.f
  have H := hid (And.intro hz hi)
  have F := hid (And.intro fz fi)
  have OK := hid ok
  clear gz gi hz hi fz fi ok
  go_enter Tryz.func4, Tryz.ntmps4
  go_wp2_with fail
  go_loopw [4] (fun i wr => ∃ (k : Nat) (x : Int), k ≤ u.hs.length ∧ i = .int .i64 k ∧ FewB w wr #[.slice ga u.gs.length gc, .slice ha u.hs.length hc, .slice fa u.fs.length fc] x) (fun i _ => u.hs.length - (intOf i).toNat)
  case atStart => exact ⟨0, _, Nat.zero_le _, rfl, FewB.start _ _ _ _⟩
  case round =>
    obtain ⟨k, x, hk, rfl, hb⟩ := hrel
    have z0 := hb.box 0
    have z1 := hb.box 1
    have z2 := hb.box 2
    simp at z0 z1 z2
    have hc1 := hb.cnt.cell
    have hc2 := hb.cnt.free
    have hlt := hb.cnt.lt
    have hB := hid hb
    by_cases hkl : k < u.hs.length
    · obtain ⟨-, y1, ⟨pv, y2, hpv⟩, -, -⟩ := H.out.2 k hkl
      have x2 := cell_on y2 hb.few.below
      have hbl := World.block_lt_of_cell? w _ y1
      have hka2 : ha = some ⟨hbk, ho, none⟩ := by rcases H.out.1 with q | q; (· omega); (· exact q.1)
      obtain ⟨pva, pvc, rfl⟩ := hpv.shape
      have hpl : (u.hs[k]).params.length ≤ 100000000 := OK.out.hp _ (List.getElem_mem _)
      subst hka2
      generalize (u.hs[k]).params.length = pl at *
      clear hb hpv y1 y2
      go_wp2_with fail
      go_region
      all_goals
        go_wp2_with fail
        go_roundw
        case rel => exact ⟨k + 1, _, by omega, by go_num, hB.out.step (grown_drew' (grown_set (grown_refl _ _) _)) (hB.out.cnt.set _)⟩
        case measure => simp [intOf]; omega
    · obtain rfl : k = u.hs.length := by omega
      clear hb
      go_wp2_with fail
      clear z0 z1 z2 hc1 hc2 hlt
      go_loopw [2, 5] (fun z i wr => ∃ (k : Nat) (x : Int), z = .bool false ∧ k ≤ u.fs.length ∧ i = .int .i64 k ∧ FewB w wr #[.slice ga u.gs.length gc, .slice ha u.hs.length hc, .slice fa u.fs.length fc] x) (fun _ i _ => u.fs.length - (intOf i).toNat)
      case atStart => exact ⟨0, _, rfl, Nat.zero_le _, rfl, hB.out⟩
      case round =>
        clear hB
        obtain ⟨k, x, rfl, hk, rfl, hb⟩ := hrel
        have z0 := hb.box 0
        have z1 := hb.box 1
        have z2 := hb.box 2
        simp at z0 z1 z2
        have hc1 := hb.cnt.cell
        have hc2 := hb.cnt.free
        have hlt := hb.cnt.lt
        have hB := hid hb
        by_cases hkl : k < u.fs.length
        · obtain ⟨-, y1, ⟨pv, y2, hpv⟩, -, -, ⟨sv, y5, hsv⟩⟩ := F.out.2 k hkl
          have x2 := cell_on y2 hb.few.below
          have x5 := cell_on y5 hb.few.below
          have hbl := World.block_lt_of_cell? w _ y1
          have hka2 : fa = some ⟨fb, fo, none⟩ := by rcases F.out.1 with q | q; (· omega); (· exact q.1)
          obtain ⟨pva, pvc, rfl⟩ := hpv.shape
          obtain ⟨sa, sn, sc, rfl⟩ := hsv.shape
          have hpl : (u.fs[k]).params.length ≤ 100000000 := OK.out.fp _ (List.getElem_mem _)
          have hfb : (u.fs[k]).body.sz ≤ 100000000 := OK.out.fb _ (List.getElem_mem _)
          subst hka2
          have hS := hid (And.intro hsv hfb)
          generalize (u.fs[k]).params.length = pl at *
          clear hb hpv hsv hfb y1 y2 y5
          go_wp2_with fail
          go_region
          all_goals
            obtain ⟨x', hx'⟩ : ∃ x', x' = wrap64 (wrap64 (x - 1) - (pl : Int)) := ⟨_, rfl⟩
            rw [← hx']
            have hBB := hid (hB.out.step (grown_drew' (grown_set (grown_refl _ _) (.int .i64 x'))) (hB.out.cnt.set x'))
            have hCall := hid (few35 _ _ _ (w.heap.size + 1) x' w _ (Nat.lt_succ_self _) hS.out.2 hS.out.1 hBB.out.few hBB.out.cnt)
            clear hx'
            go_wp2_with fail
            · refine hCall.out.mono ?_
              rintro e w2 ⟨b2, m2, rfl, hC2, hg2⟩
              have hB2 := hid (hBB.out.step hg2 hC2)
              clear hC2 hg2 hCall
              cases b2
              · go_wp2_with fail
                go_ret
                exact ⟨⟨_, rfl⟩, hB2.out.few.below⟩
              · go_wp2_with fail
                go_roundw
                case rel => exact ⟨k + 1, _, rfl, by omega, by go_num, hB2.out⟩
                case measure => simp [intOf]; omega
            · go_ret
              exact ⟨⟨_, rfl⟩, hBB.out.few.below⟩
        · obtain rfl : k = u.fs.length := by omega
          clear hb
          go_wp2_with fail
          all_goals
            go_ret
            exact ⟨⟨_, rfl⟩, hB.out.few.below⟩

end Go.Proofs.YtecpkadjnecbiaaGreatDoor
