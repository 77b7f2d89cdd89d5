/- ScriptSame: walks. No condition. -/
import Derived.Test.YtmbdlhgclkbdiaaTreeT
import Derived.RegionTactic
namespace Go.Proofs.Ytmbdlhgclkbdiaa
open Go.RowKit
set_option linter.unusedVariables false
set_option linter.unusedSimpArgs false

theorem SlR.base {α : Type} {w : World} {Z : Nat → Prop} {t : TypeId} {n : Nat} {R : α → Nat → Nat → Prop} {l : List α} {ka : Option Addr} {m c : Nat} (x : SlR w (some Z) t n R l (.slice ka m c)) (h : 0 < l.length) : ∃ g, ka = some ⟨g, 0, none⟩ := by
  obtain ⟨ka', kb, koff, kcap, hv, y2, y3⟩ := x
  cases hv
  rcases y2 with h0 | ⟨rfl, hZ⟩
  · omega
  · obtain rfl := (hZ Z rfl).2.1
    exact ⟨kb, rfl⟩
theorem SlR.at_ {α : Type} {w : World} {Z : Nat → Prop} {t : TypeId} {n : Nat} {R : α → Nat → Nat → Prop} {l : List α} {g m c : Nat} (x : SlR w (some Z) t n R l (.slice (some ⟨g, 0, none⟩) m c)) (i : Nat) (h : i < l.length) : R l[i] g (i * n) ∧ Zone w (some Z) t g 0 := by
  obtain ⟨ka', kb, koff, kcap, hv, y2, y3⟩ := x
  cases hv
  rcases y2 with h0 | ⟨e, hZ⟩
  · omega
  · cases e
    have := y3 i h
    rw [Nat.zero_add] at this
    exact ⟨this, hZ⟩
theorem Zone.free {w : World} {Z : Nat → Prop} {t : TypeId} {g : Nat} (h : Zone w (some Z) t g 0) (i : Nat) : w.frozen? ⟨g, i, none⟩ = false := by
  obtain ⟨_, _, cs, hc⟩ := h Z rfl
  exact (show Bx w g cs t from hc).free i
theorem Pl.put {w : World} {Z : Nat → Prop} {t : TypeId} {g i : Nat} {x : Int} (h : Zone w (some Z) t g 0) (hs : Spot t i) (hx : w.cell? ⟨g, i, none⟩ = some (.int .i64 x)) (y : Int) : Pl Z w (w.setCell ⟨g, i, none⟩ (.int .i64 y)) := by
  obtain ⟨h1, _, cs, hc⟩ := h Z rfl
  exact Pl.set h1 hc hs hx y
def Placed (Z : Nat → Prop) (w : World) (e : Ending) (w' : World) : Prop := (∃ v, e = .returned v) ∧ Pl Z w w'

set_option maxHeartbeats 1000000 in
set_option maxRecDepth 100000 in
theorem place56 (Z : Nat → Prop) (at_ : Int) : ∀ (n : Nat) (l : Exs) (v : Value) (w : World), l.sz < n → l.sz ≤ 100000000 → SlE w false (some Z) l v →
    Calls Try.prog 56 #[v, .int .i64 at_] w (Placed Z w) := by
  intro n
  induction n with
  | zero => intro l v w hn; omega
  | succ n ih =>
    have IH := hid ih
    clear ih
    intro l v w hn hs hv
    obtain ⟨ka, m0, c, rfl⟩ := hv.shape
    obtain ⟨m, hm⟩ : ∃ m, m = l.toL.length := ⟨_, rfl⟩
    have hmm : m0 = m := by obtain ⟨_, _, _, _, he, _⟩ := SlE_iff.1 hv; cases he; exact hm.symm
    subst hmm
    have hl := l.len_le
    rw [← Exs.toL_len, ← hm] at hl
    have hM := hid hm
    have hV := hid hv
    have hS := hid (And.intro hn hs)
    have hkb : m0 ≤ 100000000 := by omega
    clear hn hs hv hm hl
    go_enter Try.func56, Try.ntmps56
    go_wp2_with fail
    go_loopw [4] (fun i wr => ∃ (k : Nat), k ≤ m0 ∧ i = .int .i64 k ∧ Pl Z w wr) (fun i _ => m0 - (intOf i).toNat)
    case atStart => exact ⟨0, Nat.zero_le _, rfl, Pl.refl _ _⟩
    case round =>
      obtain ⟨k, hk, rfl, hp⟩ := hrel
      have hP := hid hp
      clear hp
      by_cases hlt : k < m0
      · have hR := SlE_iff.1 (hV.out.pl hP.out)
        obtain ⟨g, rfl⟩ := hR.base (by have := hM.out; omega)
        obtain ⟨⟨⟨⟨t, x0, _⟩, x1, -, -, -, -⟩, ⟨u, x6, hu⟩⟩, hZ⟩ := hR.at_ k (by have := hM.out; omega)
        have hfz := hZ.free (k * 7)
        have hsm := l.toL_sz _ (List.getElem_mem (l := l.toL) (n := k) (by have := hM.out; omega))
        have hPut := Pl.put hZ (by simp [Spot]) x0 at_
        have hU := hu.pl hPut
        obtain ⟨ua, un, uc, rfl⟩ := hu.shape
        have hCall := hid (IH.out _ _ _ (by have := hS.out; omega) (by have := hS.out; omega) hU)
        have hPP := hid (hP.out.trans hPut)
        clear hR hZ hPut hU hu hsm
        go_wp2_with fail
        refine hCall.out.mono ?_
        rintro e w2 ⟨⟨v2, rfl⟩, hp2⟩
        have hP2 := hid (hPP.out.trans hp2)
        clear hp2 hCall hPP
        go_wp2_with fail
        go_roundw
        case rel => exact ⟨k + 1, by omega, by go_num, hP2.out⟩
        case measure => simp [intOf]; omega
      · obtain rfl : k = m0 := by omega
        go_wp2_with fail
        try simp only [Exit.inBlock, Exit.then]
        exact bodyPost_ret (results_none rfl _ _ _) rfl ⟨⟨_, rfl⟩, hP.out⟩

set_option maxHeartbeats 1000000 in
set_option maxRecDepth 100000 in
theorem place38 (Z : Nat → Prop) (at_ : Int) : ∀ (n : Nat) (l : Sts) (v : Value) (w : World), l.sz < n → l.sz ≤ 100000000 → SlS w false (some Z) l v →
    Calls Try.prog 38 #[v, .int .i64 at_] w (Placed Z w) := by
  intro n
  induction n with
  | zero => intro l v w hn; omega
  | succ n ih =>
    have IH := hid ih
    clear ih
    intro l v w hn hs hv
    obtain ⟨ka, m0, c, rfl⟩ := hv.shape
    obtain ⟨m, hm⟩ : ∃ m, m = l.toL.length := ⟨_, rfl⟩
    have hmm : m0 = m := by obtain ⟨_, _, _, _, he, _⟩ := SlS_iff.1 hv; cases he; exact hm.symm
    subst hmm
    have hl := l.len_le
    rw [← Sts.toL_len, ← hm] at hl
    have hM := hid hm
    have hV := hid hv
    have hS := hid (And.intro hn hs)
    have hkb : m0 ≤ 100000000 := by omega
    clear hn hs hv hm hl
    go_enter Try.func38, Try.ntmps38
    go_wp2_with fail
    go_loopw [4] (fun i wr => ∃ (k : Nat), k ≤ m0 ∧ i = .int .i64 k ∧ Pl Z w wr) (fun i _ => m0 - (intOf i).toNat)
    case atStart => exact ⟨0, Nat.zero_le _, rfl, Pl.refl _ _⟩
    case round =>
      obtain ⟨k, hk, rfl, hp⟩ := hrel
      have hP := hid hp
      clear hp
      by_cases hlt : k < m0
      · have hR := SlS_iff.1 (hV.out.pl hP.out)
        obtain ⟨g, rfl⟩ := hR.base (by have := hM.out; omega)
        obtain ⟨⟨⟨⟨t, x0, _⟩, x1, -, -, -⟩, ⟨u, x5, hu⟩, -, -⟩, hZ⟩ := hR.at_ k (by have := hM.out; omega)
        have hfz := hZ.free (k * 8)
        have hsm := hid (l.toL_sz _ (List.getElem_mem (l := l.toL) (n := k) (by have := hM.out; omega)))
        have hPut := Pl.put hZ (by simp [Spot]) x0 at_
        have hU := hu.pl hPut
        obtain ⟨ua, un, uc, rfl⟩ := hu.shape
        have hCall := hid (place56 Z at_ _ _ _ _ (Nat.lt_succ_self _) (by have := hS.out; have := hsm.out; omega) hU)
        have hPP := hid (hP.out.trans hPut)
        clear hR hZ hPut hU hu
        go_wp2_with fail
        refine hCall.out.mono ?_
        rintro e w2 ⟨⟨v2, rfl⟩, hp2⟩
        have hP2 := hid (hPP.out.trans hp2)
        clear hp2 hCall hPP x0 x1 x5 hfz
        have hR := SlS_iff.1 (hV.out.pl hP2.out)
        obtain ⟨⟨⟨⟨t2, x0, _⟩, -, -, -, -⟩, -, ⟨vb, x6, hb⟩, -⟩, hZ⟩ := hR.at_ k (by have := hM.out; omega)
        have hbl := World.block_lt_of_cell? w2 _ x0
        obtain ⟨ba, bn, bc, rfl⟩ := hb.shape
        have hCall := hid (IH.out _ _ _ (by have := hS.out; have := hsm.out; omega) (by have := hS.out; have := hsm.out; omega) hb)
        clear hR hZ hb
        go_wp2_with fail
        refine hCall.out.mono ?_
        rintro e w3 ⟨⟨v3, rfl⟩, hp3⟩
        have hP3 := hid (hP2.out.trans hp3)
        clear hp3 hCall x0 x6 hP2
        have hR := SlS_iff.1 (hV.out.pl hP3.out)
        obtain ⟨⟨⟨⟨t3, x0, _⟩, -, -, -, -⟩, -, -, ⟨ve, x7, he⟩⟩, hZ⟩ := hR.at_ k (by have := hM.out; omega)
        obtain ⟨ea, en, ec, rfl⟩ := he.shape
        have hCall := hid (IH.out _ _ _ (by have := hS.out; have := hsm.out; omega) (by have := hS.out; have := hsm.out; omega) he)
        clear hR hZ he
        go_wp2_with fail
        refine hCall.out.mono ?_
        rintro e w4 ⟨⟨v4, rfl⟩, hp4⟩
        have hP4 := hid (hP3.out.trans hp4)
        clear hp4 hCall x0 x7 hP3
        go_wp2_with fail
        go_roundw
        case rel => exact ⟨k + 1, by omega, by go_num, hP4.out⟩
        case measure => simp [intOf]; omega
      · obtain rfl : k = m0 := by omega
        go_wp2_with fail
        try simp only [Exit.inBlock, Exit.then]
        exact bodyPost_ret (results_none rfl _ _ _) rfl ⟨⟨_, rfl⟩, hP.out⟩

/-- the unit boxed -/
structure PlB (Z : Nat → Prop) (w wr : World) (c : Array Value) : Prop where
  pl : Pl Z w wr
  box : Bx wr w.heap.size c 42
theorem PlB.step {Z : Nat → Prop} {w wr w' : World} {c : Array Value} (h : PlB Z w wr c) (hZ : ∀ b, Z b → b < w.heap.size) (hp : Pl Z wr w') : PlB Z w w' c := ⟨h.pl.trans hp, (hp.other _ h.box.lt (fun q => by have := hZ _ q; omega)).trans h.box⟩
theorem PlB.start (Z : Nat → Prop) (w : World) (c : Array Value) (hZ : ∀ b, Z b → b < w.heap.size) : PlB Z w (w.alloc (.cells c 42)) c := ⟨(Pl.refl Z w).alloc _ hZ, Bx.new w c 42⟩
theorem PlB.cells {Z : Nat → Prop} {w wr : World} {c0 c1 c2 : Value} (h : PlB Z w wr #[c0, c1, c2]) : wr.cell? ⟨w.heap.size, 0, none⟩ = some c0 ∧ wr.cell? ⟨w.heap.size, 1, none⟩ = some c1 ∧ wr.cell? ⟨w.heap.size, 2, none⟩ = some c2 := ⟨h.box.cell 0, h.box.cell 1, h.box.cell 2⟩

set_option maxHeartbeats 2000000 in
set_option maxRecDepth 100000 in
theorem place24 (Z : Nat → Prop) (at_ : Int) (u : UT) (v : Value) (w : World) (ok : u.Ok) (hv : UIn w false (some Z) u v) (hz : ∀ b, Z b → b < w.heap.size) : Calls Try.prog 24 #[v, .int .i64 at_] w (Placed Z w) := by
  obtain ⟨vg, vh, vf, rfl, hG, hH, hF⟩ := hv
  obtain ⟨ga, gc, rfl⟩ := hG.shape
  obtain ⟨ha, hc, rfl⟩ := hH.shape
  obtain ⟨fa, fc, rfl⟩ := hF.shape
  obtain ⟨mg, hmg⟩ : ∃ m, m = u.gs.length := ⟨_, rfl⟩
  obtain ⟨mh, hmh⟩ : ∃ m, m = u.hs.length := ⟨_, rfl⟩
  obtain ⟨mf, hmf⟩ : ∃ m, m = u.fs.length := ⟨_, rfl⟩
  have hgb : mg ≤ 100000000 := by rw [hmg]; exact ok.g
  have hhb : mh ≤ 100000000 := by rw [hmh]; exact ok.h
  have hfb : mf ≤ 100000000 := by rw [hmf]; exact ok.f
  rw [← hmg] at hG ⊢
  rw [← hmh] at hH ⊢
  rw [← hmf] at hF ⊢
  have HG := hid hG
  have HH := hid hH
  have HF := hid hF
  have hMG := hid hmg
  have hMH := hid hmh
  have hMF := hid hmf
  have OK := hid ok
  have HZ := hid hz
  clear hG hH hF hmg hmh hmf ok hz
  go_enter Try.func24, Try.ntmps24
  go_wp2_with fail
  go_loopw [4] (fun i wr => ∃ (k : Nat), k ≤ mg ∧ i = .int .i64 k ∧ PlB Z w wr #[.slice ga mg gc, .slice ha mh hc, .slice fa mf fc]) (fun i _ => mg - (intOf i).toNat)
  case atStart => exact ⟨0, Nat.zero_le _, rfl, PlB.start _ _ _ HZ.out⟩
  case round =>
    obtain ⟨k, hk, rfl, hp⟩ := hrel
    have hP := hid hp
    clear hp
    obtain ⟨p0, p1, p2⟩ := hP.out.cells
    by_cases hlt : k < mg
    · have hR := SlG.pl hP.out.pl HG.out
      obtain ⟨g, rfl⟩ := SlR.base hR (by have := hMG.out; omega)
      obtain ⟨⟨⟨t, x0, _⟩, -, -, -, -⟩, hZ⟩ := SlR.at_ hR k (by have := hMG.out; omega)
      have hfz := hZ.free (k * 5)
      have hP2 := hid (hP.out.step HZ.out (Pl.put hZ (by simp [Spot]) x0 at_))
      clear hR hZ
      go_wp2_with fail
      go_roundw
      case rel => exact ⟨k + 1, by omega, by go_num, hP2.out⟩
      case measure => simp [intOf]; omega
    · obtain rfl : k = mg := by omega
      go_wp2_with fail
      clear p0 p1 p2
      go_loopw [5] (fun i wr => ∃ (j : Nat), j ≤ mh ∧ i = .int .i64 j ∧ PlB Z w wr #[.slice ga k gc, .slice ha mh hc, .slice fa mf fc]) (fun i _ => mh - (intOf i).toNat)
      case atStart => exact ⟨0, Nat.zero_le _, rfl, hP.out⟩
      case round =>
        clear hP
        obtain ⟨j, hj, rfl, hp⟩ := hrel
        have hP := hid hp
        clear hp
        obtain ⟨p0, p1, p2⟩ := hP.out.cells
        by_cases hlt : j < mh
        · have hR := SlH.pl hP.out.pl HH.out
          obtain ⟨g, rfl⟩ := SlR.base hR (by have := hMH.out; omega)
          obtain ⟨⟨⟨t, x0, _⟩, -, -, -, -⟩, hZ⟩ := SlR.at_ hR j (by have := hMH.out; omega)
          have hfz := hZ.free (j * 5)
          have hP2 := hid (hP.out.step HZ.out (Pl.put hZ (by simp [Spot]) x0 at_))
          clear hR hZ
          go_wp2_with fail
          go_roundw
          case rel => exact ⟨j + 1, by omega, by go_num, hP2.out⟩
          case measure => simp [intOf]; omega
        · obtain rfl : j = mh := by omega
          go_wp2_with fail
          clear p0 p1 p2
          go_loopw [6] (fun i wr => ∃ (q : Nat), q ≤ mf ∧ i = .int .i64 q ∧ PlB Z w wr #[.slice ga k gc, .slice ha j hc, .slice fa mf fc]) (fun i _ => mf - (intOf i).toNat)
          case atStart => exact ⟨0, Nat.zero_le _, rfl, hP.out⟩
          case round =>
            clear hP
            obtain ⟨q, hq, rfl, hp⟩ := hrel
            have hP := hid hp
            clear hp
            obtain ⟨p0, p1, p2⟩ := hP.out.cells
            by_cases hlt : q < mf
            · have hR := SlF.pl hP.out.pl HF.out
              obtain ⟨g, rfl⟩ := SlR.base hR (by have := hMF.out; omega)
              obtain ⟨⟨⟨t, x0, _⟩, -, -, -, -, ⟨sv, x5, hs⟩⟩, hZ⟩ := SlR.at_ hR q (by have := hMF.out; omega)
              have hfz := hZ.free (q * 6)
              have hPut := Pl.put hZ (by simp [Spot]) x0 at_
              have hP2 := hid (hP.out.step HZ.out hPut)
              have hgz := (hZ Z rfl).1
              have hgn : w.heap.size ≠ g := by have := HZ.out g hgz; omega
              have hfb2 := OK.out.fb _ (List.getElem_mem (l := u.fs) (n := q) (by have := hMF.out; omega))
              have hS := hs.pl hPut
              obtain ⟨sa, sn, sc, rfl⟩ := hs.shape
              have hCall := hid (place38 Z at_ _ _ _ _ (Nat.lt_succ_self _) hfb2 hS)
              clear hR hZ hPut hs hS hfb2 hgz
              go_wp2_with fail
              refine hCall.out.mono ?_
              rintro e w2 ⟨⟨v2, rfl⟩, hp2⟩
              have hP3 := hid (hP2.out.step HZ.out hp2)
              clear hp2 hCall hP2 p0 p1 p2 x0 x5
              go_wp2_with fail
              go_roundw
              case rel => exact ⟨q + 1, by omega, by go_num, hP3.out⟩
              case measure => simp [intOf]; omega
            · obtain rfl : q = mf := by omega
              go_wp2_with fail
              try simp only [Exit.inBlock, Exit.then]
              exact bodyPost_ret (results_none rfl _ _ _) rfl ⟨⟨_, rfl⟩, hP.out.pl⟩

end Go.Proofs.Ytmbdlhgclkbdiaa
