/- Walks: grants that are kept apart: ApartGrants. -/
import Derived.Test.YtmbdlhgclkbdiaaHostD
namespace Go.Proofs.Ytmbdlhgclkbdiaa
open Go.RowKit
set_option linter.unusedVariables false
set_option linter.unusedSimpArgs false

def m32 (k j : Nat) : Int := IntKind.u32.wrap (1000003 * ((k : Int) + 1) + j)
def mkG (k j : Nat) : Value := .int .u32 (m32 k j)
def mgG (k _ : Nat) : Value := .int .i64 (-(k : Int) - 2)

/-- the marks, step by step, the sums under names (omega does not come back under them) -/
theorem marks_steps (k j : Nat) (hk : k ≤ 1000000) (hj : j ≤ 2000000) : ∃ p q x r y : Int, Hid (IntKind.i64.wrap ((k : Int) + 1) = (k : Int) + 1) ∧ IntKind.i64.wrap (1000003 * ((k : Int) + 1)) = p ∧ IntKind.i64.wrap (p + j) = q ∧ IntKind.u32.wrap q = x ∧ IntKind.i64.wrap (-(k : Int)) = r ∧ IntKind.i64.wrap (r - 2) = y ∧ Hid (mkG k j = .int .u32 x) ∧ Hid (mgG k j = .int .i64 y) := by
  have e2 : IntKind.i64.wrap (1000003 * ((k : Int) + 1)) = 1000003 * ((k : Int) + 1) := IntWalk.i64_in _ (by omega)
  have e3 : IntKind.i64.wrap (1000003 * ((k : Int) + 1) + j) = 1000003 * ((k : Int) + 1) + j := IntWalk.i64_in _ (by omega)
  have e5 : IntKind.i64.wrap (-(k : Int)) = -(k : Int) := IntWalk.i64_in _ (by omega)
  have e6 : IntKind.i64.wrap (-(k : Int) - 2) = -(k : Int) - 2 := IntWalk.i64_in _ (by omega)
  exact ⟨_, _, _, _, _, IntWalk.i64_in _ (by omega), e2, e3, rfl, e5, e6, rfl, rfl⟩
theorem marks_steps2 (k n m : Nat) (hk : k ≤ 1000000) (hn : n ≤ 1000000) (hm : m ≤ 64) : ∃ p t q x r y : Int, Hid (IntKind.i64.wrap ((k : Int) + 1) = (k : Int) + 1) ∧ IntKind.i64.wrap (1000003 * ((k : Int) + 1)) = p ∧ IntKind.i64.wrap (p + n) = t ∧ IntKind.i64.wrap (t + m) = q ∧ IntKind.u32.wrap q = x ∧ IntKind.i64.wrap (-(k : Int)) = r ∧ IntKind.i64.wrap (r - 2) = y ∧ Hid (mkG k (n + m) = .int .u32 x) ∧ Hid (mgG k (n + m) = .int .i64 y) := by
  have e2 : IntKind.i64.wrap (1000003 * ((k : Int) + 1)) = 1000003 * ((k : Int) + 1) := IntWalk.i64_in _ (by omega)
  have e3 : IntKind.i64.wrap (1000003 * ((k : Int) + 1) + n) = 1000003 * ((k : Int) + 1) + n := IntWalk.i64_in _ (by omega)
  have e4 : IntKind.i64.wrap (1000003 * ((k : Int) + 1) + n + m) = 1000003 * ((k : Int) + 1) + ((n + m : Nat) : Int) := by rw [IntWalk.i64_in _ (by omega)]; omega
  have e5 : IntKind.i64.wrap (-(k : Int)) = -(k : Int) := IntWalk.i64_in _ (by omega)
  have e6 : IntKind.i64.wrap (-(k : Int) - 2) = -(k : Int) - 2 := IntWalk.i64_in _ (by omega)
  exact ⟨_, _, _, _, _, _, IntWalk.i64_in _ (by omega), e2, e3, e4, rfl, e5, e6, rfl, rfl⟩

theorem mk_at (k j : Nat) : mkG k j = .int .u32 ((1000003 * ((k : Int) + 1) + j) % 4294967296) := by unfold mkG m32; rw [IntKind.wrap_u32]
theorem mk_at2 (k n m : Nat) : mkG k (n + m) = .int .u32 ((1000003 * ((k : Int) + 1) + n + m) % 4294967296) := by rw [mk_at, show 1000003 * ((k : Int) + 1) + ((n + m : Nat) : Int) = 1000003 * ((k : Int) + 1) + n + m by omega]
theorem grownBy_drewN (w : World) (n : Nat) (row : Option Nat) : w.grownBy (w.drewN n) row := ⟨rfl, rfl, rfl, Nat.le_refl _, fun _ _ _ => rfl⟩
set_option maxHeartbeats 2000000 in
set_option maxRecDepth 100000 in
theorem apart20 (w : World) (B lb lo cap : Nat) (L0 : List RowS) (hA : Ap w B lb lo L0 L0) (hB : B ≤ w.heap.size) (hlb : lb < w.heap.size) (hLn : L0.length ≤ 1000000) (hn : ∀ i (h : i < L0.length), L0[i].n ≤ 1000000)
    (he : ∀ i (h : i < L0.length), L0[i].e = 58 ∧ L0[i].size = 2) :
    Calls Try.prog 20 #[.slice (some ⟨lb, lo, none⟩) L0.length cap] w fun e w' => e = .returned (.bool true) ∧ Below B w w' := by
  have hE := hid he
  have hN := hid hn
  have hAp := hid hA
  clear he hn hA
  have hLen : Hid (∀ i (h : i < L0.length), L0[i].xs.length = L0[i].n * 2) := fun i h => by
    have := (hAp.out.sep.own i h).1
    rw [(hE.out i h).2] at this
    omega
  have hSh : Hid (∀ i (h : i < L0.length), ∃ ao c, L0[i].v = .slice ao L0[i].n c ∧ (L0[i].n = 0 ∨ ∃ g, ao = some ⟨g, 0, none⟩)) := fun i h => own_any_shape (hAp.out.sep.own i h)
  go_enter Try.func20, Try.ntmps20
  go_wp2
  go_loopw [3] (fun i wr => ∃ k : Nat, k ≤ L0.length ∧ i = .int .i64 k ∧ Aq1 wr B lb lo L0 mkG mgG k 0 ∧ Below B w wr) (fun i _ => L0.length - (intOf i).toNat)
  case atStart => exact ⟨0, Nat.zero_le _, rfl, Aq1.start mkG mgG hAp.out, Below.refl _ _⟩
  case round =>
    obtain ⟨k, hk, rfl, hp, hb⟩ := hrel
    have hP := hid hp
    have hb0 := hid hb
    clear hp hb
    by_cases hlt : k < L0.length
    · obtain ⟨ao, c, hv, hcase⟩ := hSh.out k hlt
      have hnk := hN.out k hlt
      have hc0 := hP.out.cell k hlt
      rw [hv] at hc0
      have hV := hid hv
      have hxk := hid (hLen.out k hlt)
      have hsk := hid (hE.out k hlt)
      have hNx := hid (fun W (h : Aq1 W B lb lo L0 mkG mgG k L0[k].n) => h.next hLen.out hlt rfl)
      have hSt := hid (fun W j g (hg : ao = some ⟨g, 0, none⟩) (h : Aq1 W B lb lo L0 mkG mgG k j) (hj : j < L0[k].n) => Aq1.store h hlt (hV.out.trans (by rw [hg])) rfl hxk.out hj)
      have hOl := hid (fun W j g (hg : ao = some ⟨g, 0, none⟩) (h : Aq1 W B lb lo L0 mkG mgG k j) (hj : j < L0[k].n) => Aq1.old h hlt (hV.out.trans (by rw [hg])) rfl hsk.out.2 hj)
      have hCe := hid (fun W j (h : Aq1 W B lb lo L0 mkG mgG k j) => (h.cell k hlt).trans (congrArg some hV.out))
      clear hv
      generalize L0[k].n = n at *
      go_wp2_with fail
      go_loopw [4] (fun i wr => ∃ j : Nat, j ≤ n ∧ i = .int .i64 j ∧ Aq1 wr B lb lo L0 mkG mgG k j ∧ Below B w wr) (fun i _ => n - (intOf i).toNat)
      case atStart => exact ⟨0, Nat.zero_le _, rfl, hP.out, hb0.out⟩
      case round =>
        clear hc0 hP hb0
        obtain ⟨j, hj, rfl, hp, hb⟩ := hrel
        have hP := hid hp
        have hb0 := hid hb
        clear hp hb
        have hc0 := hCe.out _ _ hP.out
        by_cases hlt2 : j < n
        · rcases hcase with h0 | ⟨g, hg⟩
          · omega
          · subst hg
            obtain ⟨⟨u, hcu⟩, ⟨u2, hcu2⟩, hfu, hfu2, hgB⟩ := hOl.out _ j g rfl hP.out hlt2
            obtain ⟨p, q, x, r, y, hw1, hw2, hw3, hw4, hw5, hw6, hmk, hmg⟩ := marks_steps k j (by omega) (by omega)
            have hst := hSt.out _ j g rfl hP.out hlt2
            rw [hmk.out, hmg.out] at hst
            have hst' := hid hst
            clear hst
            replace hw1 := hw1.out
            go_wp2_with fail
            go_roundw
            case rel => exact ⟨j + 1, by omega, by go_num, hst'.out, Below.setCell (Below.setCell hb0.out hgB _) hgB _⟩
            case measure => simp [intOf]; omega
        · obtain rfl : j = n := by omega
          go_wp2_with fail
          go_roundw
          case rel => exact ⟨k + 1, by omega, by go_num, hNx.out _ hP.out, hb0.out⟩
          case measure => simp [intOf]; omega
    · obtain rfl : k = L0.length := by omega
      have hszw := hb0.out.size
      have hap0 := hid hAp.out.sep.apart
      have h2 := hid (hP.out.toAq2 (eo := 29) hE.out hap0.out (by omega) (by omega))
      obtain ⟨H, hH⟩ : ∃ H, H = wr.heap.size := ⟨_, rfl⟩
      rw [← hH] at h2
      have hbH := hid hb0.out
      clear hH hP hb0 hap0
      go_wp2_with fail
      go_loopw [5, 6] (fun gs0 i wr => ∃ (G : List RowS) (gs : Value), gs = gs0 ∧ i = .int .i64 G.length ∧ Aq2 wr B lb lo H L0 mkG mgG 58 29 gs G ∧ Below B w wr) (fun _ i _ => L0.length - (intOf i).toNat)
      case atStart => exact ⟨[], _, rfl, rfl, h2.out, hbH.out⟩
      case round =>
        clear h2 hbH
        obtain ⟨G, gs, rfl, rfl, hp, hb⟩ := hrel
        have hP := hid hp
        have hb0 := hid hb
        have hle := hp.le
        clear hp hb
        by_cases hlt : G.length < L0.length
        · obtain ⟨ao, c, hv, hcase⟩ := hSh.out G.length hlt
          have hnk := hN.out G.length hlt
          have hCe := hid (fun W gs G' (h : Aq2 W B lb lo H L0 mkG mgG 58 29 gs G') (e : G'.length = G.length) => (h.cells G.length hlt).trans (congrArg some hv))
          have hc0 := hCe.out _ _ _ hP.out rfl
          have h3 := hP.out.open hlt
          rw [hv] at h3
          have h3' := hid h3
          clear hcase h3
          generalize hgn : L0[G.length].n = n at *
          have hgn' := hid hgn
          clear hgn
          go_wp2_with fail
          go_loopw [7, 8] (fun cur j wr => ∃ m : Nat, m ≤ 64 ∧ j = .int .i64 m ∧ Aq2c wr B lb lo H L0 mkG mgG 58 29 gs G cur m ∧ Below B w wr) (fun _ j _ => 64 - (intOf j).toNat)
          case atStart => exact ⟨0, by omega, rfl, h3'.out, hb0.out⟩
          case round =>
            clear h3' hb0 hc0 hP
            obtain ⟨m, hm, rfl, hp, hb⟩ := hrel
            have hP := hid hp
            have hb0 := hid hb
            clear hp hb
            have hc0 := hCe.out _ _ _ hP.out.main rfl
            by_cases hlt2 : m < 64
            · have hmk := hid (mk_at2 G.length n m)
              have hmg : Hid (mgG G.length (n + m) = .int .i64 (-(G.length : Int) - 2)) := rfl
              have hOwn := hid (by have := hP.out.own; rw [hgn'.out] at this; exact this)
              have hsB : B ≤ wr.heap.size := by have := hb0.out.size; omega
              go_wp2_with (at_builtin; go_must (refine wpList_append_str rfl _ _ 29 rfl B 58 58 (.agg #[.int .u32 0, .int .i64 0]) 2 16 1 Try.underlying29 (by kernel_rfl) rfl (by decide) _ (n + m) _ [_, _] (0, 0) hOwn.out rfl (by simp [Value.oneCell']) (by unfold maxLen; omega) (by omega) hsB rfl rfl ?_); intro v' w3 hA3)
              have hP3 := hid (hP.out.grow hlt (by rw [hgn'.out, hmk.out, hmg.out]; exact hA3))
              have hb3 : Hid (Below B w w3) := hid (hb0.out.trans (hA3.below hOwn.out hsB))
              clear hA3
              go_roundw
              case rel => exact ⟨m + 1, by omega, by go_num, hP3.out, hb3.out⟩
              case measure => simp [intOf]; omega
            · obtain rfl : m = 64 := by omega
              obtain ⟨cao, cc, hcv, -⟩ := own_any_shape hP.out.own
              rw [hgn'.out] at hcv
              subst hcv
              have hgl := hP.out.main.sep.own 0 (by simp)
              simp only [List.getElem_cons_zero] at hgl
              have hgl' := hid hgl
              clear hgl
              go_wp2_with (at_builtin; go_must (refine wpList_append_str rfl _ _ 36 rfl B 29 29 (.slice none 0 0) 1 24 1 Try.underlying36 (by kernel_rfl) rfl (by decide) _ G.length _ [_] (0, 0) hgl'.out rfl (by simp [Value.oneCell']) (by unfold maxLen; omega) (by omega) (Nat.le_trans hB hb0.out.size) rfl rfl ?_); intro v' w3 hA3)
              have hP3 := hid (hP.out.shut hlt hA3)
              have hb3 : Hid (Below B w w3) := hid (hb0.out.trans (hA3.below hgl'.out (Nat.le_trans hB hb0.out.size)))
              clear hA3
              go_roundw
              case rel => exact ⟨_, _, rfl, by simp, hP3.out, hb3.out⟩
              case measure => simp [intOf]; omega
        · have hGL : G.length = L0.length := by omega
          have hOS := hid (fun W (h : Aq2 W B lb lo H L0 mkG mgG 58 29 gs G) => by have := h.sep.own 0 (by simp); simp only [List.getElem_cons_zero] at this; exact this)
          obtain ⟨gao, gc, hgv, hgcase⟩ := own_any_shape (hOS.out _ hP.out)
          have hgv' := hid hgv
          subst hgv
          have hG' := hid hGL
          clear hGL
          go_wp2_with fail
          go_loopw [9] (fun i wr => ∃ k : Nat, k ≤ L0.length ∧ i = .int .i64 k ∧ Aq2 wr B lb lo H L0 mkG mgG 58 29 (.slice gao G.length gc) G ∧ Below B w wr) (fun i _ => L0.length - (intOf i).toNat)
          case atStart => exact ⟨0, Nat.zero_le _, rfl, hP.out, hb0.out⟩
          case round =>
            clear hP hb0 hlt
            obtain ⟨k, hk, rfl, hp, hb⟩ := hrel
            have hP := hid hp
            have hb0 := hid hb
            clear hp hb
            by_cases hlt : k < L0.length
            · rcases hgcase with h0 | ⟨gg, rfl⟩
              · have := hG'.out; omega
              have hkG : k < G.length := by have := hG'.out; omega
              have hgL := hid (fun W (h : Aq2 W B lb lo H L0 mkG mgG 58 29 (.slice (some ⟨gg, 0, none⟩) G.length gc) G) => (hOS.out W h).cellAt k (by omega))
              simp only [List.getElem?_map, List.getElem?_eq_getElem hkG, Option.map_some] at hgL
              have hOk := hid (fun W (h : Aq2 W B lb lo H L0 mkG mgG 58 29 (.slice (some ⟨gg, 0, none⟩) G.length gc) G) => by have := h.sep.own (k + 1) (by simpa using hkG); simp only [List.getElem_cons_succ] at this; exact this)
              obtain ⟨e1, e2, e3, e4, _⟩ := hP.out.each k hkG hlt
              obtain ⟨ao, c, hv0, hcase⟩ := hSh.out k hlt
              have hnk := hN.out k hlt
              have hCe := hid (fun W (h : Aq2 W B lb lo H L0 mkG mgG 58 29 (.slice (some ⟨gg, 0, none⟩) G.length gc) G) => (h.cells k hlt).trans (congrArg some hv0))
              have hRd := hid (fun W (h : Aq2 W B lb lo H L0 mkG mgG 58 29 (.slice (some ⟨gg, 0, none⟩) G.length gc) G) => h.reads k hlt)
              rw [e1, e2, e3, e4] at hOk
              rw [hv0] at hRd
              generalize L0[k].n = n at *
              obtain ⟨g2, c2, hv2, _, _, hc2, _⟩ := own_shape (hOk.out _ hP.out) (by omega)
              rw [hv2] at hOk hgL
              clear e1 e2 e3 e4 hv0 hv2
              have hM2 := hid (fun W (h : Aq2 W B lb lo H L0 mkG mgG 58 29 (.slice (some ⟨gg, 0, none⟩) G.length gc) G) m (hm : m < n + 64) => And.intro (((hOk.out W h).cellAt (m * 2) (by omega)).trans (pairsM_get mkG mgG k _ m hm).1) (((hOk.out W h).cellAt (m * 2 + 1) (by omega)).trans (pairsM_get mkG mgG k _ m hm).2))
              have hM0 := hid (fun W (h : Aq2 W B lb lo H L0 mkG mgG 58 29 (.slice (some ⟨gg, 0, none⟩) G.length gc) G) m g (hg : ao = some ⟨g, 0, none⟩) (hm : m < n) => by have := hRd.out W h; rw [hg] at this; exact And.intro ((this.cellAt (m * 2) (by omega)).trans (pairsM_get mkG mgG k _ m hm).1) ((this.cellAt (m * 2 + 1) (by omega)).trans (pairsM_get mkG mgG k _ m hm).2))
              clear hOk hRd
              have hc0 := hgL.out _ hP.out
              have hc1 := hCe.out _ hP.out
              go_wp2_with fail
              go_loopw [10] (fun i wr => ∃ m : Nat, m ≤ n + 64 ∧ i = .int .i64 m ∧ Aq2 wr B lb lo H L0 mkG mgG 58 29 (.slice (some ⟨gg, 0, none⟩) G.length gc) G ∧ Below B w wr) (fun i _ => n + 64 - (intOf i).toNat)
              case atStart => exact ⟨0, Nat.zero_le _, rfl, hP.out, hb0.out⟩
              case round =>
                clear hc0 hc1 hP hb0
                obtain ⟨m, hm, rfl, hp, hb⟩ := hrel
                have hP := hid hp
                have hb0 := hid hb
                have hsz := hb.size
                clear hp hb
                have hc0 := hgL.out _ hP.out
                by_cases hlt2 : m < n + 64
                · have hmk := hid (mk_at k m)
                  have hmg : Hid (mgG k m = .int .i64 (-(k : Int) - 2)) := rfl
                  have hP2 := hid (hP.out.kept (World.grownBy_alloc wr (.cells #[.int .u32 ((1000003 * ((k : Int) + 1) + m) % 4294967296), .int .i64 (-(k : Int) - 2)] 58) none))
                  have hb2 := hid (hb0.out.alloc (Nat.le_trans hB hsz) (.cells #[.int .u32 ((1000003 * ((k : Int) + 1) + m) % 4294967296), .int .i64 (-(k : Int) - 2)] 58))
                  have hd0 := hgL.out _ hP2.out
                  have hd1 := hCe.out _ hP2.out
                  have hd2 := (hM2.out _ hP2.out m hlt2).1
                  have hd3 := (hM2.out _ hP2.out m hlt2).2
                  rw [hmk.out] at hd2
                  rw [hmg.out] at hd3
                  by_cases hlt3 : m < n
                  · rcases hcase with h0 | ⟨g0, hg0⟩
                    · omega
                    · subst hg0
                      have hd4 := (hM0.out _ hP2.out m g0 rfl hlt3).1
                      have hd5 := (hM0.out _ hP2.out m g0 rfl hlt3).2
                      rw [hmk.out] at hd4
                      rw [hmg.out] at hd5
                      go_wp2_with fail
                      go_quiet ((fail))
                      go_wp2_with fail
                      go_roundw
                      case rel => exact ⟨m + 1, by omega, by go_num, hP2.out.kept (grownBy_drewN _ _ _), below_drewN' hb2.out _⟩
                      case measure => simp [intOf]; omega
                  · go_wp2_with fail
                    go_quiet ((fail))
                    go_wp2_with fail
                    go_roundw
                    case rel => exact ⟨m + 1, by omega, by go_num, hP2.out.kept (grownBy_drewN _ _ _), below_drewN' hb2.out _⟩
                    case measure => simp [intOf]; omega
                · go_wp2_with fail
                  go_roundw
                  case rel => exact ⟨k + 1, by omega, by go_num, hP.out, hb0.out⟩
                  case measure => simp [intOf]; omega
            · go_wp2_with fail
              go_ret
              exact ⟨rfl, hb0.out⟩
end Go.Proofs.Ytmbdlhgclkbdiaa
