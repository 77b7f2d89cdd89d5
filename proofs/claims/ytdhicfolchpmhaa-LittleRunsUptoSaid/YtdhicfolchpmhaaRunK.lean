/- Walks: ApartBytes, keep: with what is kept besides. -/
import Derived.Test.YtdhicfolchpmhaaKeep
import Derived.Test.YtdhicfolchpmhaaSpanH
namespace Go.Proofs.Ytdhicfolchpmhaa
open Go.RowKit
set_option linter.unusedVariables false
set_option linter.unusedSimpArgs false

theorem BK.trans {K : Nat → Prop} {B : Nat} {a w w' : World} (h : BK K B a w) (h' : BK K B w w') : BK K B a w' := ⟨h.below.trans h'.below, h.lt, fun q hq => (h'.same q hq).trans (h.same q hq)⟩
theorem Ap2.notK {w w0 : World} {B lb lo H : Nat} {L0 : List RowS} {mk : Nat → Nat → Value} {e eo : TypeId} {gs : Value} {G : List RowS} {K : Nat → Prop} (h : Ap2 w B lb lo H L0 mk e eo gs G) (hK : ∀ q, K q → q < w0.heap.size ∧ ∀ i (h : i < L0.length), L0[i].v.ownBlock ≠ some q) (hH : w0.heap.size ≤ H) : ∀ q, gs.ownBlock = some q → ¬ K q := fun q hq hk => by
  have h1 := h.gsb q hq
  have h2 := (hK q hk).1
  omega
theorem Ap2c.notK {w w0 : World} {B lb lo H : Nat} {L0 : List RowS} {mk : Nat → Nat → Value} {e eo : TypeId} {gs : Value} {G : List RowS} {cur : Value} {j : Nat} {K : Nat → Prop} (h : Ap2c w B lb lo H L0 mk e eo gs G cur j) (hK : ∀ q, K q → q < w0.heap.size ∧ ∀ i (h : i < L0.length), L0[i].v.ownBlock ≠ some q) (hH : w0.heap.size ≤ H) : ∀ q, cur.ownBlock = some q → ¬ K q := fun q hq hk => by
  have h2 := hK q hk
  rcases h.place with h3 | ⟨g, h3, h4⟩
  · rw [h3] at hq
    exact h2.2 _ h.lt hq
  · rw [h3, Option.some.injEq] at hq
    omega

set_option maxHeartbeats 2000000 in
theorem apart_bytesK (w : World) (K : Nat → Prop) (B lb lo cap : Nat) (L0 : List RowS) (hA : Ap w B lb lo L0 L0) (hB : B ≤ w.heap.size) (hlb : lb < w.heap.size) (hLn : L0.length ≤ 100000000) (hn : ∀ i (h : i < L0.length), L0[i].n ≤ 100000000)
    (he : ∀ i (h : i < L0.length), L0[i].e = 5 ∧ L0[i].size = 1) (hK : ∀ q, K q → q < w.heap.size ∧ ∀ i (h : i < L0.length), L0[i].v.ownBlock ≠ some q) :
    Calls Try.prog 80 #[.slice (some ⟨lb, lo, none⟩) L0.length cap] w fun e w' => e = .returned (.bool true) ∧ BK K B w w' := by
  have hKH := hid hK
  clear hK
  have hE := hid he
  have hN := hid hn
  have hAp := hid hA
  clear he hn hA
  have hLen : Hid (∀ i (h : i < L0.length), L0[i].xs.length = L0[i].n) := fun i h => by
    have := (hAp.out.sep.own i h).1
    rw [(hE.out i h).2] at this
    omega
  have hSh : Hid (∀ i (h : i < L0.length), ∃ ao c, L0[i].v = .slice ao L0[i].n c ∧ (L0[i].n = 0 ∨ ∃ g, ao = some ⟨g, 0, none⟩)) := fun i h => own_any_shape (hAp.out.sep.own i h)
  go_enter Try.func80, Try.ntmps80
  go_wp2
  go_loopw [3] (fun i wr => ∃ k : Nat, k ≤ L0.length ∧ i = .int .i64 k ∧ Ap1 wr B lb lo L0 mkB k 0 ∧ BK K B w wr) (fun i _ => L0.length - (intOf i).toNat)
  case atStart => exact ⟨0, Nat.zero_le _, rfl, Ap1.start mkB hAp.out, BK.refl (fun q h => (hKH.out q h).1)⟩
  case round =>
    obtain ⟨k, hk, rfl, hp, hb⟩ := hrel
    have hP := hid hp
    have hb0 := hid hb
    clear hp hb
    by_cases hlt : k < L0.length
    · obtain ⟨ao, c, hv, hcase⟩ := hSh.out k hlt
      have hnk := hN.out k hlt
      have hc0 := hP.out.cell k hlt
      rw [hv] at hc0
      have hV := hid hv
      have hxk := hid (hLen.out k hlt)
      have hsk := hid (hE.out k hlt)
      have hNx := hid (fun W (h : Ap1 W B lb lo L0 mkB k L0[k].n) => h.next hLen.out hlt rfl)
      have hSt := hid (fun W j g (hg : ao = some ⟨g, 0, none⟩) (h : Ap1 W B lb lo L0 mkB k j) (hj : j < L0[k].n) => Ap1.store h hlt (hV.out.trans (by rw [hg])) rfl hsk.out.2 hxk.out hj)
      have hOl := hid (fun W j g (hg : ao = some ⟨g, 0, none⟩) (h : Ap1 W B lb lo L0 mkB k j) (hj : j < L0[k].n) => Ap1.old h hlt (hV.out.trans (by rw [hg])) rfl hsk.out.2 hj)
      have hCe := hid (fun W j (h : Ap1 W B lb lo L0 mkB k j) => (h.cell k hlt).trans (congrArg some hV.out))
      clear hv
      generalize L0[k].n = n at *
      go_wp2_with fail
      go_loopw [4] (fun i wr => ∃ j : Nat, j ≤ n ∧ i = .int .i64 j ∧ Ap1 wr B lb lo L0 mkB k j ∧ BK K B w wr) (fun i _ => n - (intOf i).toNat)
      case atStart => exact ⟨0, Nat.zero_le _, rfl, hP.out, hb0.out⟩
      case round =>
        clear hc0 hP hb0
        obtain ⟨j, hj, rfl, hp, hb⟩ := hrel
        have hP := hid hp
        have hb0 := hid hb
        clear hp hb
        have hc0 := hCe.out _ _ hP.out
        by_cases hlt2 : j < n
        · rcases hcase with h0 | ⟨g, hg⟩
          · omega
          · subst hg
            obtain ⟨⟨u, hcu⟩, hfu, hgB⟩ := hOl.out _ j g rfl hP.out hlt2
            have hKg := hid (fun hq : K g => (hKH.out g hq).2 k hlt (by rw [hV.out]; rfl))
            have hw1 : IntKind.i64.wrap ((k : Int) + 1) = (k : Int) + 1 := IntWalk.i64_in _ (by omega)
            go_wp2_with fail
            go_region_law (go_simp; go_at_call 59; go_loud (refine (mark_g _ _ (k + 1) j _ (by simp) rfl).mono ?_); rintro e w2 ⟨rfl, hg2⟩; have hP2 := hid (Ap1.kept (Ap1.kept hP.out (grownBy_drew _ none)) hg2); have hb2 : Hid (BK K B w w2) := hid ((BK.drew hb0.out).grown hg2 (Nat.le_trans hB hb0.out.size) (fun k hk => by simp at hk)); have hc2 := hCe.out _ _ hP2.out; obtain ⟨⟨u2, hcu2⟩, hfu2, _⟩ := hOl.out _ j g rfl hP2.out hlt2; clear hg2)
            all_goals
              go_wp2_with fail
              go_roundw
              case rel => exact ⟨j + 1, by omega, by go_num, hSt.out _ j g rfl hP2.out hlt2, BK.setCell hb2.out hgB hKg.out _⟩
              case measure => simp [intOf]; omega
        · obtain rfl : j = n := by omega
          go_wp2_with fail
          go_roundw
          case rel => exact ⟨k + 1, by omega, by go_num, hNx.out _ hP.out, hb0.out⟩
          case measure => simp [intOf]; omega
    · obtain rfl : k = L0.length := by omega
      have hszw := hb0.out.size
      have hap0 := hid hAp.out.sep.apart
      have h2 := hid (hP.out.toAp2 (eo := 23) hE.out hap0.out (by omega) (by omega))
      obtain ⟨H, hH⟩ : ∃ H, H = wr.heap.size := ⟨_, rfl⟩
      rw [← hH] at h2 hszw
      have hwH := hid hszw
      have hbH := hid hb0.out
      clear hH hP hb0 hap0
      go_wp2_with fail
      go_loopw [5, 6] (fun gs0 i wr => ∃ (G : List RowS) (gs : Value), gs = gs0 ∧ i = .int .i64 G.length ∧ Ap2 wr B lb lo H L0 mkB 5 23 gs G ∧ BK K B w wr) (fun _ i _ => L0.length - (intOf i).toNat)
      case atStart => exact ⟨[], _, rfl, rfl, h2.out, hbH.out⟩
      case round =>
        clear h2 hbH
        obtain ⟨G, gs, rfl, rfl, hp, hb⟩ := hrel
        have hP := hid hp
        have hb0 := hid hb
        have hle := hp.le
        clear hp hb
        by_cases hlt : G.length < L0.length
        · obtain ⟨ao, c, hv, hcase⟩ := hSh.out G.length hlt
          have hnk := hN.out G.length hlt
          have hCe := hid (fun W gs G' (h : Ap2 W B lb lo H L0 mkB 5 23 gs G') (e : G'.length = G.length) => (h.cells G.length hlt).trans (congrArg some hv))
          have hc0 := hCe.out _ _ _ hP.out rfl
          have h3 := hP.out.open hlt
          rw [hv] at h3
          have h3' := hid h3
          clear hcase h3
          generalize hgn : L0[G.length].n = n at *
          have hgn' := hid hgn
          clear hgn
          go_wp2_with fail
          go_loopw [7, 8] (fun cur j wr => ∃ m : Nat, m ≤ 64 ∧ j = .int .i64 m ∧ Ap2c wr B lb lo H L0 mkB 5 23 gs G cur m ∧ BK K B w wr) (fun _ j _ => 64 - (intOf j).toNat)
          case atStart => exact ⟨0, by omega, rfl, h3'.out, hb0.out⟩
          case round =>
            clear h3' hb0 hc0 hP
            obtain ⟨m, hm, rfl, hp, hb⟩ := hrel
            have hP := hid hp
            have hb0 := hid hb
            clear hp hb
            have hc0 := hCe.out _ _ _ hP.out.main rfl
            by_cases hlt2 : m < 64
            · have hw1 : IntKind.i64.wrap ((G.length : Int) + 1) = (G.length : Int) + 1 := IntWalk.i64_in _ (by omega)
              have hw2 : IntKind.i64.wrap ((n : Int) + m) = (n : Int) + m := IntWalk.i64_in _ (by omega)
              go_wp2_with (first | (go_at_call 59; go_must (refine (mark_g _ _ (G.length + 1) (n + m) _ (by simp) (by simp)).mono ?_); rintro e w2 ⟨rfl, hg2⟩; have hP2 := hid (Ap2c.kept hP.out hg2); have hb2 : Hid (BK K B w w2) := hid (hb0.out.grown hg2 (Nat.le_trans hB hb0.out.size) (fun k hk => by simp at hk)); clear hg2) | (at_builtin; go_must (refine wpList_append_str rfl _ _ 23 rfl B 5 5 (.int .u8 0) 1 1 1 Try.underlying23 (by kernel_rfl) rfl (by decide) _ (n + m) _ [.int .u8 (markB ((G.length + 1 : Nat) : Int) ((n + m : Nat) : Int))] (0, 0) (by have := hP2.out.own; rw [hgn'.out] at this; exact this) rfl (by simp [Value.oneCell']) (by unfold maxLen; omega) (by omega) (by have := hb2.out.size; omega) rfl rfl ?_); intro v' w3 hA3))
              have hP3 := hid (hP2.out.grow hlt (by rw [hgn'.out]; exact hA3))
              have hb3 : Hid (BK K B w w3) := hid (hb2.out.appended hA3 (by have := hP2.out.own; rw [hgn'.out] at this; exact this) (by have := hb2.out.size; omega) (hP2.out.notK hKH.out hwH.out))
              clear hA3
              go_roundw
              case rel => exact ⟨m + 1, by omega, by go_num, hP3.out, hb3.out⟩
              case measure => simp [intOf]; omega
            · obtain rfl : m = 64 := by omega
              obtain ⟨cao, cc, hcv, -⟩ := own_any_shape hP.out.own
              rw [hgn'.out] at hcv
              subst hcv
              have hgl := hP.out.main.sep.own 0 (by simp)
              simp only [List.getElem_cons_zero] at hgl
              have hgl' := hid hgl
              clear hgl
              go_wp2_with (at_builtin; go_must (refine wpList_append_str rfl _ _ 63 rfl B 23 23 (.slice none 0 0) 1 24 1 Try.underlying63 (by kernel_rfl) rfl (by decide) _ G.length _ [_] (0, 0) hgl'.out rfl (by simp [Value.oneCell']) (by unfold maxLen; omega) (by omega) (Nat.le_trans hB hb0.out.size) rfl rfl ?_); intro v' w3 hA3)
              have hP3 := hid (hP.out.shut hlt hA3)
              have hb3 : Hid (BK K B w w3) := hid (hb0.out.appended hA3 hgl'.out (Nat.le_trans hB hb0.out.size) (hP.out.main.notK hKH.out hwH.out))
              clear hA3
              go_roundw
              case rel => exact ⟨_, _, rfl, by simp, hP3.out, hb3.out⟩
              case measure => simp [intOf]; omega
        · have hGL : G.length = L0.length := by omega
          have hOS := hid (fun W (h : Ap2 W B lb lo H L0 mkB 5 23 gs G) => by have := h.sep.own 0 (by simp); simp only [List.getElem_cons_zero] at this; exact this)
          obtain ⟨gao, gc, hgv, hgcase⟩ := own_any_shape (hOS.out _ hP.out)
          have hgv' := hid hgv
          subst hgv
          have hG' := hid hGL
          clear hGL
          go_wp2_with fail
          go_loopw [9] (fun i wr => ∃ k : Nat, k ≤ L0.length ∧ i = .int .i64 k ∧ Ap2 wr B lb lo H L0 mkB 5 23 (.slice gao G.length gc) G ∧ BK K B w wr) (fun i _ => L0.length - (intOf i).toNat)
          case atStart => exact ⟨0, Nat.zero_le _, rfl, hP.out, hb0.out⟩
          case round =>
            clear hP hb0 hlt
            obtain ⟨k, hk, rfl, hp, hb⟩ := hrel
            have hP := hid hp
            have hb0 := hid hb
            clear hp hb
            by_cases hlt : k < L0.length
            · rcases hgcase with h0 | ⟨gg, rfl⟩
              · have := hG'.out; omega
              have hkG : k < G.length := by have := hG'.out; omega
              have hgL := hid (fun W (h : Ap2 W B lb lo H L0 mkB 5 23 (.slice (some ⟨gg, 0, none⟩) G.length gc) G) => (hOS.out W h).cellAt k (by omega))
              simp only [List.getElem?_map, List.getElem?_eq_getElem hkG, Option.map_some] at hgL
              have hOk := hid (fun W (h : Ap2 W B lb lo H L0 mkB 5 23 (.slice (some ⟨gg, 0, none⟩) G.length gc) G) => by have := h.sep.own (k + 1) (by simpa using hkG); simp only [List.getElem_cons_succ] at this; exact this)
              obtain ⟨e1, e2, e3, e4, _⟩ := hP.out.each k hkG hlt
              obtain ⟨ao, c, hv0, hcase⟩ := hSh.out k hlt
              have hnk := hN.out k hlt
              have hCe := hid (fun W (h : Ap2 W B lb lo H L0 mkB 5 23 (.slice (some ⟨gg, 0, none⟩) G.length gc) G) => (h.cells k hlt).trans (congrArg some hv0))
              have hRd := hid (fun W (h : Ap2 W B lb lo H L0 mkB 5 23 (.slice (some ⟨gg, 0, none⟩) G.length gc) G) => h.reads k hlt)
              rw [e1, e2, e3, e4] at hOk
              rw [hv0] at hRd
              generalize L0[k].n = n at *
              obtain ⟨g2, c2, hv2, _, _, hc2, _⟩ := own_shape (hOk.out _ hP.out) (by omega)
              rw [hv2] at hOk hgL
              clear e1 e2 e3 e4 hv0 hv2
              have hM2 := hid (fun W (h : Ap2 W B lb lo H L0 mkB 5 23 (.slice (some ⟨gg, 0, none⟩) G.length gc) G) m (hm : m < n + 64) => ((hOk.out W h).cellAt m (by omega)).trans (Marks_get mkB k _ m hm))
              have hM0 := hid (fun W (h : Ap2 W B lb lo H L0 mkB 5 23 (.slice (some ⟨gg, 0, none⟩) G.length gc) G) m g (hg : ao = some ⟨g, 0, none⟩) (hm : m < n) => by have := hRd.out W h; rw [hg] at this; exact (this.cellAt m (by omega)).trans (Marks_get mkB k _ m hm))
              clear hOk hRd
              have hc0 := hgL.out _ hP.out
              have hc1 := hCe.out _ hP.out
              go_wp2_with fail
              go_loopw [10] (fun i wr => ∃ m : Nat, m ≤ n + 64 ∧ i = .int .i64 m ∧ Ap2 wr B lb lo H L0 mkB 5 23 (.slice (some ⟨gg, 0, none⟩) G.length gc) G ∧ BK K B w wr) (fun i _ => n + 64 - (intOf i).toNat)
              case atStart => exact ⟨0, Nat.zero_le _, rfl, hP.out, hb0.out⟩
              case round =>
                clear hc0 hc1 hP hb0
                obtain ⟨m, hm, rfl, hp, hb⟩ := hrel
                have hP := hid hp
                have hb0 := hid hb
                clear hp hb
                have hc0 := hgL.out _ hP.out
                by_cases hlt2 : m < n + 64
                · have hw1 : IntKind.i64.wrap ((k : Int) + 1) = (k : Int) + 1 := IntWalk.i64_in _ (by omega)
                  by_cases hlt3 : m < n
                  · rcases hcase with h0 | ⟨g0, hg0⟩
                    · omega
                    · subst hg0
                      go_wp2_with (go_at_call 59; go_must (refine (mark_g _ _ (k + 1) m _ (by simp) rfl).mono ?_); rintro e w2 ⟨rfl, hg2⟩; have hP2 := hid (Ap2.kept hP.out hg2); have hb2 : Hid (BK K B w w2) := hid (hb0.out.grown hg2 (Nat.le_trans hB hb0.out.size) (fun k hk => by simp at hk)); clear hg2; have hd0 := hgL.out _ hP2.out; have hd1 := hCe.out _ hP2.out; have hd2 := hM2.out _ hP2.out m hlt2; have hd3 := hM0.out _ hP2.out m g0 rfl hlt3; unfold mkB at hd2 hd3)
                      go_roundw
                      case rel => exact ⟨m + 1, by omega, by go_num, hP2.out, hb2.out⟩
                      case measure => simp [intOf]; omega
                  · go_wp2_with (go_at_call 59; go_must (refine (mark_g _ _ (k + 1) m _ (by simp) rfl).mono ?_); rintro e w2 ⟨rfl, hg2⟩; have hP2 := hid (Ap2.kept hP.out hg2); have hb2 : Hid (BK K B w w2) := hid (hb0.out.grown hg2 (Nat.le_trans hB hb0.out.size) (fun k hk => by simp at hk)); clear hg2; have hd0 := hgL.out _ hP2.out; have hd1 := hCe.out _ hP2.out; have hd2 := hM2.out _ hP2.out m hlt2; unfold mkB at hd2)
                    go_roundw
                    case rel => exact ⟨m + 1, by omega, by go_num, hP2.out, hb2.out⟩
                    case measure => simp [intOf]; omega
                · go_wp2_with fail
                  go_roundw
                  case rel => exact ⟨k + 1, by omega, by go_num, hP.out, hb0.out⟩
                  case measure => simp [intOf]; omega
            · go_wp2_with fail
              go_ret
              exact ⟨rfl, hb0.out⟩

set_option maxHeartbeats 1000000 in
theorem keepK38 (w : World) (K : Nat → Prop) (B lb lo cap mb mo cap2 : Nat) (L0 : List RowS) (X : List (List Int)) (hA : Ap w B lb lo L0 L0) (hB : B ≤ w.heap.size) (hlb : lb < w.heap.size) (hLn : L0.length ≤ 100000000) (hn : ∀ i (h : i < L0.length), L0[i].n ≤ 100000000)
    (he : ∀ i (h : i < L0.length), L0[i].e = 5 ∧ L0[i].size = 1) (hK : ∀ q, K q → q < w.heap.size ∧ ∀ i (h : i < L0.length), L0[i].v.ownBlock ≠ some q) (hx : ∀ i (h : i < L0.length), L0[i].xs = (X.getD i []).map (Value.int .u8))
    (hM : ∀ i, i < L0.length → ∃ ao c, w.cell? ⟨mb, mo + i, none⟩ = some (.slice ao (X.getD i []).length c) ∧ Ints .u8 w ao (X.getD i [])) :
    Calls Try.prog 38 #[.slice (some ⟨lb, lo, none⟩) L0.length cap, .slice (some ⟨mb, mo, none⟩) L0.length cap2] w fun e w' => e = .returned (.bool true) ∧ BK K B w w' := by
  have hKH := hid hK
  clear hK
  have hA' := hid hA
  have hn' := hid hn
  have he' := hid he
  have hx' := hid hx
  have hM' := hid hM
  clear hA hn he hx hM
  have hap : Hid (∀ q, Calls Try.prog 80 #[.slice (some ⟨lb, lo, none⟩) L0.length cap] (w.drewN q) fun e w' => e = .returned (.bool true) ∧ BK K B (w.drewN q) w') := fun q =>
    apart_bytesK (w.drewN q) K B lb lo cap L0 ⟨hA'.out.sep.drewN q, hA'.out.shape, hA'.out.cells, hA'.out.far⟩ hB hlb hLn hn'.out he'.out hKH.out
  go_enter Try.func38, Try.ntmps38
  go_wp2
  go_loopw [5] (fun i wr => ∃ k q : Nat, k ≤ L0.length ∧ i = .int .i64 k ∧ wr = w.drewN q) (fun i _ => L0.length - (intOf i).toNat)
  case atStart => exact ⟨0, 0, Nat.zero_le _, rfl, rfl⟩
  case round =>
    obtain ⟨k, q, hk, rfl, hw⟩ := hrel
    have hW := hid hw
    by_cases hlt : k < L0.length
    · obtain ⟨mo1, mc, hmc, hmI⟩ := hM'.out k hlt
      have hown := hA'.out.sep.own k hlt
      rw [(he'.out k hlt).1, (he'.out k hlt).2, hx'.out k hlt] at hown
      obtain ⟨ao, c, hv, hI, hnl, hlc, hcm⟩ := ints_of_own hown hmI.wf
      have hcell1 : wr.cell? ⟨lb, lo + k, none⟩ = some (.slice ao (X.getD k []).length c) := by rw [hw]; exact (hA'.out.cells k hlt).trans (congrArg some hv)
      have hcell2 : wr.cell? ⟨mb, mo + k, none⟩ = some (.slice mo1 (X.getD k []).length mc) := by rw [hw]; exact hmc
      have hI1 : Hid (Ints .u8 wr ao (X.getD k [])) := by unfold Hid; rw [hw]; exact hI.drewN q
      have hI2 : Hid (Ints .u8 wr mo1 (X.getD k [])) := by unfold Hid; rw [hw]; exact hmI.drewN q
      have hxl : (X.getD k []).length ≤ 100000000 := by have := hn'.out k hlt; omega
      clear hown hv hI hmI hmc hnl hw
      generalize X.getD k [] = l at *
      have hdec : decide (l = l) = true := decide_eq_true rfl
      have hs := hid (fun n => by have := same_any ao l.length c l mo1 l.length mc l (wr.drewN n) rfl rfl (by omega) (hI1.out.drewN n) (hI2.out.drewN n); rw [hdec] at this; exact this)
      clear hdec
      go_wp2_with fail
      go_quiet ((go_at_call 27; exact Calls.quiet_of (hs.out _)))
      go_wp2_with fail
      go_roundw
      case rel => exact ⟨k + 1, q + nq, by omega, by go_num, by rw [hW.out]; simp⟩
      case measure => simp [intOf]; omega
    · subst hw
      go_wp2_with fail
      refine (hap.out q).mono ?_
      rintro e w1 ⟨rfl, hb⟩
      have hb' : BK K B w w1 := (BK.drewN (BK.refl (fun q h => (hKH.out q h).1)) q).trans hb
      go_wp2_with fail
      go_ret
      exact ⟨rfl, hb'⟩
end Go.Proofs.Ytdhicfolchpmhaa

namespace Go.Proofs.Ytdhicfolchpmhaa
open Go.RowKit
set_option linter.unusedVariables false
set_option linter.unusedSimpArgs false

def m32 (k j : Nat) : Int := IntKind.u32.wrap (1000003 * ((k : Int) + 1) + j)
def mkR (k j : Nat) : Value := .int .u32 (m32 k j)
def mgR (_ _ : Nat) : Value := .slice none 0 0
theorem marks_steps (k j : Nat) (hk : k ≤ 100000000) (hj : j ≤ 1000000000) : ∃ p q x : Int, Hid (IntKind.i64.wrap ((k : Int) + 1) = (k : Int) + 1) ∧ IntKind.i64.wrap (1000003 * ((k : Int) + 1)) = p ∧ IntKind.i64.wrap (p + j) = q ∧ IntKind.u32.wrap q = x ∧ Hid (mkR k j = .int .u32 x) := by
  have e2 : IntKind.i64.wrap (1000003 * ((k : Int) + 1)) = 1000003 * ((k : Int) + 1) := IntWalk.i64_in _ (by omega)
  have e3 : IntKind.i64.wrap (1000003 * ((k : Int) + 1) + j) = 1000003 * ((k : Int) + 1) + j := IntWalk.i64_in _ (by omega)
  exact ⟨_, _, _, IntWalk.i64_in _ (by omega), e2, e3, rfl, rfl⟩
theorem mk_at2 (k n m : Nat) : mkR k (n + m) = .int .u32 ((1000003 * ((k : Int) + 1) + n + m) % 4294967296) := by unfold mkR m32; rw [IntKind.wrap_u32, show 1000003 * ((k : Int) + 1) + ((n + m : Nat) : Int) = 1000003 * ((k : Int) + 1) + n + m by omega]
theorem mk_at (k j : Nat) : mkR k j = .int .u32 ((1000003 * ((k : Int) + 1) + j) % 4294967296) := by unfold mkR m32; rw [IntKind.wrap_u32]

set_option maxHeartbeats 2000000 in
set_option maxRecDepth 100000 in
theorem apart57 (w : World) (K : Nat → Prop) (B lb lo cap : Nat) (L0 : List RowS) (hA : Ap w B lb lo L0 L0) (hB : B ≤ w.heap.size) (hlb : lb < w.heap.size) (hLn : L0.length ≤ 100000000) (hn : ∀ i (h : i < L0.length), L0[i].n ≤ 100000000)
    (he : ∀ i (h : i < L0.length), L0[i].e = 104 ∧ L0[i].size = 2) (hK : ∀ q, K q → q < w.heap.size ∧ ∀ i (h : i < L0.length), L0[i].v.ownBlock ≠ some q) :
    Calls Try.prog 57 #[.slice (some ⟨lb, lo, none⟩) L0.length cap] w fun e w' => e = .returned (.bool true) ∧ BK K B w w' := by
  have hKH := hid hK
  clear hK
  have hE := hid he
  have hN := hid hn
  have hAp := hid hA
  clear he hn hA
  have hLen : Hid (∀ i (h : i < L0.length), L0[i].xs.length = L0[i].n * 2) := fun i h => by
    have := (hAp.out.sep.own i h).1
    rw [(hE.out i h).2] at this
    omega
  have hSh : Hid (∀ i (h : i < L0.length), ∃ ao c, L0[i].v = .slice ao L0[i].n c ∧ (L0[i].n = 0 ∨ ∃ g, ao = some ⟨g, 0, none⟩)) := fun i h => own_any_shape (hAp.out.sep.own i h)
  go_enter Try.func57, Try.ntmps57
  go_wp2
  go_loopw [3] (fun i wr => ∃ k : Nat, k ≤ L0.length ∧ i = .int .i64 k ∧ Aq1 wr B lb lo L0 mkR mgR k 0 ∧ BK K B w wr) (fun i _ => L0.length - (intOf i).toNat)
  case atStart => exact ⟨0, Nat.zero_le _, rfl, Aq1.start mkR mgR hAp.out, BK.refl (fun q h => (hKH.out q h).1)⟩
  case round =>
    obtain ⟨k, hk, rfl, hp, hb⟩ := hrel
    have hP := hid hp
    have hb0 := hid hb
    clear hp hb
    by_cases hlt : k < L0.length
    · obtain ⟨ao, c, hv, hcase⟩ := hSh.out k hlt
      have hnk := hN.out k hlt
      have hc0 := hP.out.cell k hlt
      rw [hv] at hc0
      have hV := hid hv
      have hxk := hid (hLen.out k hlt)
      have hsk := hid (hE.out k hlt)
      have hNx := hid (fun W (h : Aq1 W B lb lo L0 mkR mgR k L0[k].n) => h.next hLen.out hlt rfl)
      have hSt := hid (fun W j g (hg : ao = some ⟨g, 0, none⟩) (h : Aq1 W B lb lo L0 mkR mgR k j) (hj : j < L0[k].n) => Aq1.store h hlt (hV.out.trans (by rw [hg])) rfl hxk.out hj)
      have hOl := hid (fun W j g (hg : ao = some ⟨g, 0, none⟩) (h : Aq1 W B lb lo L0 mkR mgR k j) (hj : j < L0[k].n) => Aq1.old h hlt (hV.out.trans (by rw [hg])) rfl hsk.out.2 hj)
      have hCe := hid (fun W j (h : Aq1 W B lb lo L0 mkR mgR k j) => (h.cell k hlt).trans (congrArg some hV.out))
      clear hv
      generalize L0[k].n = n at *
      go_wp2_with fail
      go_loopw [4] (fun i wr => ∃ j : Nat, j ≤ n ∧ i = .int .i64 j ∧ Aq1 wr B lb lo L0 mkR mgR k j ∧ BK K B w wr) (fun i _ => n - (intOf i).toNat)
      case atStart => exact ⟨0, Nat.zero_le _, rfl, hP.out, hb0.out⟩
      case round =>
        clear hc0 hP hb0
        obtain ⟨j, hj, rfl, hp, hb⟩ := hrel
        have hP := hid hp
        have hb0 := hid hb
        clear hp hb
        have hc0 := hCe.out _ _ hP.out
        by_cases hlt2 : j < n
        · rcases hcase with h0 | ⟨g, hg⟩
          · omega
          · subst hg
            obtain ⟨⟨u, hcu⟩, ⟨u2, hcu2⟩, hfu, hfu2, hgB⟩ := hOl.out _ j g rfl hP.out hlt2
            have hKg := hid (fun hq : K g => (hKH.out g hq).2 k hlt (by rw [hV.out]; rfl))
            obtain ⟨p, q, x, hw1, hw2, hw3, hw4, hmk⟩ := marks_steps k j (by omega) (by omega)
            have hmg : Hid (mgR k j = .slice none 0 0) := rfl
            have hst := hSt.out _ j g rfl hP.out hlt2
            rw [hmk.out, hmg.out] at hst
            have hst' := hid hst
            clear hst
            replace hw1 := hw1.out
            go_wp2_with fail
            go_roundw
            case rel => exact ⟨j + 1, by omega, by go_num, hst'.out, BK.setCell (BK.setCell hb0.out hgB hKg.out _) hgB hKg.out _⟩
            case measure => simp [intOf]; omega
        · obtain rfl : j = n := by omega
          go_wp2_with fail
          go_roundw
          case rel => exact ⟨k + 1, by omega, by go_num, hNx.out _ hP.out, hb0.out⟩
          case measure => simp [intOf]; omega
    · obtain rfl : k = L0.length := by omega
      have hszw := hb0.out.size
      have hap0 := hid hAp.out.sep.apart
      have h2 := hid (hP.out.toAq2 (eo := 90) hE.out hap0.out (by omega) (by omega))
      obtain ⟨H, hH⟩ : ∃ H, H = wr.heap.size := ⟨_, rfl⟩
      rw [← hH] at h2 hszw
      have hwH := hid hszw
      have hbH := hid hb0.out
      clear hH hP hb0 hap0
      go_wp2_with fail
      go_loopw [5, 6] (fun gs0 i wr => ∃ (G : List RowS) (gs : Value), gs = gs0 ∧ i = .int .i64 G.length ∧ Aq2 wr B lb lo H L0 mkR mgR 104 90 gs G ∧ BK K B w wr) (fun _ i _ => L0.length - (intOf i).toNat)
      case atStart => exact ⟨[], _, rfl, rfl, h2.out, hbH.out⟩
      case round =>
        clear h2 hbH
        obtain ⟨G, gs, rfl, rfl, hp, hb⟩ := hrel
        have hP := hid hp
        have hb0 := hid hb
        have hle := hp.le
        clear hp hb
        by_cases hlt : G.length < L0.length
        · obtain ⟨ao, c, hv, hcase⟩ := hSh.out G.length hlt
          have hnk := hN.out G.length hlt
          have hCe := hid (fun W gs G' (h : Aq2 W B lb lo H L0 mkR mgR 104 90 gs G') (e : G'.length = G.length) => (h.cells G.length hlt).trans (congrArg some hv))
          have hc0 := hCe.out _ _ _ hP.out rfl
          have h3 := hP.out.open hlt
          rw [hv] at h3
          have h3' := hid h3
          clear hcase h3
          generalize hgn : L0[G.length].n = n at *
          have hgn' := hid hgn
          clear hgn
          go_wp2_with fail
          go_loopw [7, 8] (fun cur j wr => ∃ m : Nat, m ≤ 64 ∧ j = .int .i64 m ∧ Aq2c wr B lb lo H L0 mkR mgR 104 90 gs G cur m ∧ BK K B w wr) (fun _ j _ => 64 - (intOf j).toNat)
          case atStart => exact ⟨0, by omega, rfl, h3'.out, hb0.out⟩
          case round =>
            clear h3' hb0 hc0 hP
            obtain ⟨m, hm, rfl, hp, hb⟩ := hrel
            have hP := hid hp
            have hb0 := hid hb
            clear hp hb
            have hc0 := hCe.out _ _ _ hP.out.main rfl
            by_cases hlt2 : m < 64
            · have hmk := hid (mk_at2 G.length n m)
              have hmg : Hid (mgR G.length (n + m) = .slice none 0 0) := rfl
              have hOwn := hid (by have := hP.out.own; rw [hgn'.out] at this; exact this)
              have hsB : B ≤ wr.heap.size := by have := hb0.out.size; omega
              go_wp2_with (at_builtin; go_must (refine wpList_append_str rfl _ _ 90 rfl B 104 104 (.agg #[.int .u32 0, .slice none 0 0]) 2 32 1 Try.underlying90 (by kernel_rfl) rfl (by decide) _ (n + m) _ [_, _] (0, 0) hOwn.out rfl (by simp [Value.oneCell']) (by unfold maxLen; omega) (by omega) hsB rfl rfl ?_); intro v' w3 hA3)
              have hP3 := hid (hP.out.grow hlt (by rw [hgn'.out, hmk.out, hmg.out]; exact hA3))
              have hb3 : Hid (BK K B w w3) := hid (hb0.out.appended hA3 hOwn.out hsB (hP.out.notK hKH.out hwH.out))
              clear hA3
              go_roundw
              case rel => exact ⟨m + 1, by omega, by go_num, hP3.out, hb3.out⟩
              case measure => simp [intOf]; omega
            · obtain rfl : m = 64 := by omega
              obtain ⟨cao, cc, hcv, -⟩ := own_any_shape hP.out.own
              rw [hgn'.out] at hcv
              subst hcv
              have hgl := hP.out.main.sep.own 0 (by simp)
              simp only [List.getElem_cons_zero] at hgl
              have hgl' := hid hgl
              clear hgl
              go_wp2_with (at_builtin; go_must (refine wpList_append_str rfl _ _ 89 rfl B 90 90 (.slice none 0 0) 1 24 1 Try.underlying89 (by kernel_rfl) rfl (by decide) _ G.length _ [_] (0, 0) hgl'.out rfl (by simp [Value.oneCell']) (by unfold maxLen; omega) (by omega) (Nat.le_trans hB hb0.out.size) rfl rfl ?_); intro v' w3 hA3)
              have hP3 := hid (hP.out.shut hlt hA3)
              have hb3 : Hid (BK K B w w3) := hid (hb0.out.appended hA3 hgl'.out (Nat.le_trans hB hb0.out.size) (hP.out.main.notK hKH.out hwH.out))
              clear hA3
              go_roundw
              case rel => exact ⟨_, _, rfl, by simp, hP3.out, hb3.out⟩
              case measure => simp [intOf]; omega
        · have hGL : G.length = L0.length := by omega
          have hOS := hid (fun W (h : Aq2 W B lb lo H L0 mkR mgR 104 90 gs G) => by have := h.sep.own 0 (by simp); simp only [List.getElem_cons_zero] at this; exact this)
          obtain ⟨gao, gc, hgv, hgcase⟩ := own_any_shape (hOS.out _ hP.out)
          have hgv' := hid hgv
          subst hgv
          have hG' := hid hGL
          clear hGL
          go_wp2_with fail
          go_loopw [9] (fun i wr => ∃ k : Nat, k ≤ L0.length ∧ i = .int .i64 k ∧ Aq2 wr B lb lo H L0 mkR mgR 104 90 (.slice gao G.length gc) G ∧ BK K B w wr) (fun i _ => L0.length - (intOf i).toNat)
          case atStart => exact ⟨0, Nat.zero_le _, rfl, hP.out, hb0.out⟩
          case round =>
            clear hP hb0 hlt
            obtain ⟨k, hk, rfl, hp, hb⟩ := hrel
            have hP := hid hp
            have hb0 := hid hb
            clear hp hb
            by_cases hlt : k < L0.length
            · rcases hgcase with h0 | ⟨gg, rfl⟩
              · have := hG'.out; omega
              have hkG : k < G.length := by have := hG'.out; omega
              have hgL := hid (fun W (h : Aq2 W B lb lo H L0 mkR mgR 104 90 (.slice (some ⟨gg, 0, none⟩) G.length gc) G) => (hOS.out W h).cellAt k (by omega))
              simp only [List.getElem?_map, List.getElem?_eq_getElem hkG, Option.map_some] at hgL
              have hOk := hid (fun W (h : Aq2 W B lb lo H L0 mkR mgR 104 90 (.slice (some ⟨gg, 0, none⟩) G.length gc) G) => by have := h.sep.own (k + 1) (by simpa using hkG); simp only [List.getElem_cons_succ] at this; exact this)
              obtain ⟨e1, e2, e3, e4, _⟩ := hP.out.each k hkG hlt
              obtain ⟨ao, c, hv0, hcase⟩ := hSh.out k hlt
              have hnk := hN.out k hlt
              have hCe := hid (fun W (h : Aq2 W B lb lo H L0 mkR mgR 104 90 (.slice (some ⟨gg, 0, none⟩) G.length gc) G) => (h.cells k hlt).trans (congrArg some hv0))
              have hRd := hid (fun W (h : Aq2 W B lb lo H L0 mkR mgR 104 90 (.slice (some ⟨gg, 0, none⟩) G.length gc) G) => h.reads k hlt)
              rw [e1, e2, e3, e4] at hOk
              rw [hv0] at hRd
              generalize L0[k].n = n at *
              obtain ⟨g2, c2, hv2, _, _, hc2, _⟩ := own_shape (hOk.out _ hP.out) (by omega)
              rw [hv2] at hOk hgL
              clear e1 e2 e3 e4 hv0 hv2
              have hM2 := hid (fun W (h : Aq2 W B lb lo H L0 mkR mgR 104 90 (.slice (some ⟨gg, 0, none⟩) G.length gc) G) m (hm : m < n + 64) => And.intro (((hOk.out W h).cellAt (m * 2) (by omega)).trans (pairsM_get mkR mgR k _ m hm).1) (((hOk.out W h).cellAt (m * 2 + 1) (by omega)).trans (pairsM_get mkR mgR k _ m hm).2))
              have hM0 := hid (fun W (h : Aq2 W B lb lo H L0 mkR mgR 104 90 (.slice (some ⟨gg, 0, none⟩) G.length gc) G) m g (hg : ao = some ⟨g, 0, none⟩) (hm : m < n) => by have := hRd.out W h; rw [hg] at this; exact And.intro ((this.cellAt (m * 2) (by omega)).trans (pairsM_get mkR mgR k _ m hm).1) ((this.cellAt (m * 2 + 1) (by omega)).trans (pairsM_get mkR mgR k _ m hm).2))
              clear hOk hRd
              have hc0 := hgL.out _ hP.out
              have hc1 := hCe.out _ hP.out
              go_wp2_with fail
              go_loopw [10] (fun i wr => ∃ m : Nat, m ≤ n + 64 ∧ i = .int .i64 m ∧ Aq2 wr B lb lo H L0 mkR mgR 104 90 (.slice (some ⟨gg, 0, none⟩) G.length gc) G ∧ BK K B w wr) (fun i _ => n + 64 - (intOf i).toNat)
              case atStart => exact ⟨0, Nat.zero_le _, rfl, hP.out, hb0.out⟩
              case round =>
                clear hc0 hc1 hP hb0
                obtain ⟨m, hm, rfl, hp, hb⟩ := hrel
                have hP := hid hp
                have hb0 := hid hb
                have hsz := hb.size
                clear hp hb
                have hc0 := hgL.out _ hP.out
                by_cases hlt2 : m < n + 64
                · have hmk := hid (mk_at k m)
                  have hd1 := hCe.out _ hP.out
                  have hd2 := (hM2.out _ hP.out m hlt2).1
                  rw [hmk.out] at hd2
                  by_cases hlt3 : m < n
                  · rcases hcase with h0 | ⟨g0, hg0⟩
                    · omega
                    · subst hg0
                      have hd4 := (hM0.out _ hP.out m g0 rfl hlt3).1
                      rw [hmk.out] at hd4
                      go_wp2_with fail
                      go_roundw
                      case rel => exact ⟨m + 1, by omega, by go_num, hP.out, hb0.out⟩
                      case measure => simp [intOf]; omega
                  · go_wp2_with fail
                    go_roundw
                    case rel => exact ⟨m + 1, by omega, by go_num, hP.out, hb0.out⟩
                    case measure => simp [intOf]; omega
                · go_wp2_with fail
                  go_roundw
                  case rel => exact ⟨k + 1, by omega, by go_num, hP.out, hb0.out⟩
                  case measure => simp [intOf]; omega
            · go_wp2_with fail
              go_ret
              exact ⟨rfl, hb0.out⟩
end Go.Proofs.Ytdhicfolchpmhaa

