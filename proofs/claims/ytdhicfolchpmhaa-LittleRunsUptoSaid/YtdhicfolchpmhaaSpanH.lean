/- Helper lemmas: what is kept besides what lies below. No condition. -/
import Derived.Test.YtdhicfolchpmhaaKitQ
import Derived.Test.YtdhicfolchpmhaaSpanA
namespace Go.Proofs.Ytdhicfolchpmhaa
open Go.RowKit
set_option linter.unusedVariables false
set_option linter.unusedSimpArgs false

/-- what lies below B is kept, and the blocks of K too -/
structure BK (K : Nat → Prop) (B : Nat) (w w' : World) : Prop where
  below : Below B w w'
  lt : ∀ q, K q → q < w.heap.size
  same : ∀ q, K q → w'.heap[q]? = w.heap[q]?

theorem BK.refl {K : Nat → Prop} {B : Nat} {w : World} (h : ∀ q, K q → q < w.heap.size) : BK K B w w := ⟨Below.refl _ _, h, fun _ _ => rfl⟩
theorem BK.size {K : Nat → Prop} {B : Nat} {w w' : World} (h : BK K B w w') : w.heap.size ≤ w'.heap.size := h.below.size
theorem BK.drew {K : Nat → Prop} {B : Nat} {a w : World} (h : BK K B a w) : BK K B a w.drew := ⟨Below.drew h.below, h.lt, h.same⟩
theorem BK.drewN {K : Nat → Prop} {B : Nat} {a w : World} (h : BK K B a w) (n : Nat) : BK K B a (w.drewN n) := ⟨below_drewN' h.below n, h.lt, h.same⟩
theorem BK.grown {K : Nat → Prop} {B : Nat} {a w w' : World} {row : Option Nat} (h : BK K B a w) (hg : w.grownBy w' row) (hB : B ≤ w.heap.size) (hr : ∀ k, row = some k → B ≤ k ∧ ¬ K k) : BK K B a w' :=
  ⟨h.below.grown hg hB (fun k hk => (hr k hk).1), h.lt, fun q hq => (hg.block q (Nat.lt_of_lt_of_le (h.lt q hq) h.size) (fun e => (hr q e.symm).2 hq)).trans (h.same q hq)⟩
theorem BK.setCell {K : Nat → Prop} {B : Nat} {a w : World} (h : BK K B a w) {p : Addr} (hp : B ≤ p.block) (hk : ¬ K p.block) (u : Value) : BK K B a (w.setCell p u) :=
  ⟨Below.setCell h.below hp u, h.lt, fun q hq => (Below.heap_setCell _ _ _ _ (fun e => hk (e ▸ hq))).trans (h.same q hq)⟩
theorem BK.appended {K : Nat → Prop} {B : Nat} {a w w' : World} {e : TypeId} {size : Nat} {v v' : Value} {n m : Nat} {xs news : List Value} (h : BK K B a w) (hA : Appended w w' B e size v v' n m xs news) (ho : w.ownsRow B e size v n xs) (hB : B ≤ w.heap.size) (hk : ∀ q, v.ownBlock = some q → ¬ K q) : BK K B a w' :=
  h.grown hA.grown hB (fun q hq => ⟨(ho.lt q hq).1, hk q hq⟩)

theorem Aq2.notK {w w0 : World} {B lb lo H : Nat} {L0 : List RowS} {mk mg : Nat → Nat → Value} {e eo : TypeId} {gs : Value} {G : List RowS} {K : Nat → Prop} (h : Aq2 w B lb lo H L0 mk mg e eo gs G) (hK : ∀ q, K q → q < w0.heap.size ∧ ∀ i (h : i < L0.length), L0[i].v.ownBlock ≠ some q) (hH : w0.heap.size ≤ H) : ∀ q, gs.ownBlock = some q → ¬ K q := fun q hq hk => by
  have h1 := h.gsb q hq
  have h2 := (hK q hk).1
  omega
theorem Aq2c.notK {w w0 : World} {B lb lo H : Nat} {L0 : List RowS} {mk mg : Nat → Nat → Value} {e eo : TypeId} {gs : Value} {G : List RowS} {cur : Value} {j : Nat} {K : Nat → Prop} (h : Aq2c w B lb lo H L0 mk mg e eo gs G cur j) (hK : ∀ q, K q → q < w0.heap.size ∧ ∀ i (h : i < L0.length), L0[i].v.ownBlock ≠ some q) (hH : w0.heap.size ≤ H) : ∀ q, cur.ownBlock = some q → ¬ K q := fun q hq hk => by
  have h2 := hK q hk
  rcases h.place with h3 | ⟨g, h3, h4⟩
  · rw [h3] at hq
    exact h2.2 _ h.lt hq
  · rw [h3, Option.some.injEq] at hq
    omega

/-- an own row in a block that is kept -/
theorem own_same {w w' : World} {base : Nat} {e : TypeId} {size : Nat} {v : Value} {n : Nat} {xs : List Value} (h : w.ownsRow base e size v n xs) (hs : ∀ q, v.ownBlock = some q → w'.heap[q]? = w.heap[q]?) : w'.ownsRow base e size v n xs := by
  obtain ⟨h1, h2⟩ := h
  refine ⟨h1, ?_⟩
  rcases h2 with h2 | ⟨g, cap, cur, hv, hg, hh, r⟩
  · exact .inl h2
  · exact .inr ⟨g, cap, cur, hv, hg, by rw [hs g (by rw [hv]; rfl)]; exact hh, r⟩
theorem Sep.same {w w' : World} {B : Nat} {L : List RowS} (h : Sep w B L) (hs : ∀ r ∈ L, ∀ q, r.v.ownBlock = some q → w'.heap[q]? = w.heap[q]?) : Sep w' B L :=
  ⟨fun i hi => own_same (h.own i hi) (hs _ (List.getElem_mem hi)), h.apart⟩
end Go.Proofs.Ytdhicfolchpmhaa

namespace Go.Proofs.Ytdhicfolchpmhaa
open Go.RowKit
set_option linter.unusedVariables false
set_option linter.unusedSimpArgs false

def mkS (k j : Nat) : Value := .int .u32 (mU (k + 1) j)
def mgS (k _ : Nat) : Value := .int .u32 (mV (k + 1))
theorem mark_s (x y : Int) (a b : Nat) (w : World) (hx : x = a) (hy : y = b) (ha : a ≤ 1000000000) (hb : b ≤ 1000000000) :
    Calls Try.prog 87 #[.int .i64 x, .int .i64 y] w fun e w' => e = .returned (.agg #[.int .u32 (mU a b), .int .u32 (mV a)]) ∧ w.grownBy w' none := by
  subst hx hy
  exact mark87 a b ha hb w

set_option maxHeartbeats 2000000 in
set_option maxRecDepth 100000 in
theorem apart49 (w : World) (K : Nat → Prop) (B lb lo cap : Nat) (L0 : List RowS) (hA : Ap w B lb lo L0 L0) (hB : B ≤ w.heap.size) (hlb : lb < w.heap.size) (hLn : L0.length ≤ 100000000) (hn : ∀ i (h : i < L0.length), L0[i].n ≤ 100000000)
    (he : ∀ i (h : i < L0.length), L0[i].e = 59 ∧ L0[i].size = 2) (hK : ∀ q, K q → q < w.heap.size ∧ ∀ i (h : i < L0.length), L0[i].v.ownBlock ≠ some q) :
    Calls Try.prog 49 #[.slice (some ⟨lb, lo, none⟩) L0.length cap] w fun e w' => e = .returned (.bool true) ∧ BK K B w w' := by
  have hKH := hid hK
  clear hK
  have hE := hid he
  have hN := hid hn
  have hAp := hid hA
  clear he hn hA
  have hLen : Hid (∀ i (h : i < L0.length), L0[i].xs.length = L0[i].n * 2) := fun i h => by
    have := (hAp.out.sep.own i h).1
    rw [(hE.out i h).2] at this
    omega
  have hSh : Hid (∀ i (h : i < L0.length), ∃ ao c, L0[i].v = .slice ao L0[i].n c ∧ (L0[i].n = 0 ∨ ∃ g, ao = some ⟨g, 0, none⟩)) := fun i h => own_any_shape (hAp.out.sep.own i h)
  go_enter Try.func49, Try.ntmps49
  go_wp2
  go_loopw [3] (fun i wr => ∃ k : Nat, k ≤ L0.length ∧ i = .int .i64 k ∧ Aq1 wr B lb lo L0 mkS mgS k 0 ∧ BK K B w wr) (fun i _ => L0.length - (intOf i).toNat)
  case atStart => exact ⟨0, Nat.zero_le _, rfl, Aq1.start mkS mgS hAp.out, BK.refl (fun q h => (hKH.out q h).1)⟩
  case round =>
    obtain ⟨k, hk, rfl, hp, hb⟩ := hrel
    have hP := hid hp
    have hb0 := hid hb
    clear hp hb
    by_cases hlt : k < L0.length
    · obtain ⟨ao, c, hv, hcase⟩ := hSh.out k hlt
      have hnk := hN.out k hlt
      have hc0 := hP.out.cell k hlt
      rw [hv] at hc0
      have hV := hid hv
      have hxk := hid (hLen.out k hlt)
      have hsk := hid (hE.out k hlt)
      have hNx := hid (fun W (h : Aq1 W B lb lo L0 mkS mgS k L0[k].n) => h.next hLen.out hlt rfl)
      have hSt := hid (fun W j g (hg : ao = some ⟨g, 0, none⟩) (h : Aq1 W B lb lo L0 mkS mgS k j) (hj : j < L0[k].n) => Aq1.store h hlt (hV.out.trans (by rw [hg])) rfl hxk.out hj)
      have hOl := hid (fun W j g (hg : ao = some ⟨g, 0, none⟩) (h : Aq1 W B lb lo L0 mkS mgS k j) (hj : j < L0[k].n) => Aq1.old h hlt (hV.out.trans (by rw [hg])) rfl hsk.out.2 hj)
      have hCe := hid (fun W j (h : Aq1 W B lb lo L0 mkS mgS k j) => (h.cell k hlt).trans (congrArg some hV.out))
      clear hv
      generalize L0[k].n = n at *
      go_wp2_with fail
      go_loopw [4] (fun i wr => ∃ j : Nat, j ≤ n ∧ i = .int .i64 j ∧ Aq1 wr B lb lo L0 mkS mgS k j ∧ BK K B w wr) (fun i _ => n - (intOf i).toNat)
      case atStart => exact ⟨0, Nat.zero_le _, rfl, hP.out, hb0.out⟩
      case round =>
        clear hc0 hP hb0
        obtain ⟨j, hj, rfl, hp, hb⟩ := hrel
        have hP := hid hp
        have hb0 := hid hb
        clear hp hb
        have hc0 := hCe.out _ _ hP.out
        by_cases hlt2 : j < n
        · rcases hcase with h0 | ⟨g, hg⟩
          · omega
          · subst hg
            obtain ⟨⟨u, hcu⟩, ⟨u2, hcu2⟩, hfu, hfu2, hgB⟩ := hOl.out _ j g rfl hP.out hlt2
            have hKg := hid (fun hq : K g => (hKH.out g hq).2 k hlt (by rw [hV.out]; rfl))
            have hw1 : IntKind.i64.wrap ((k : Int) + 1) = (k : Int) + 1 := IntWalk.i64_in _ (by omega)
            go_wp2_with fail
            go_region_law (go_simp; go_at_call 87; go_loud (refine (mark_s _ _ (k + 1) j _ (by simp) rfl (by omega) (by omega)).mono ?_); rintro e w2 ⟨rfl, hg2⟩; have hP2 := hid (Aq1.kept (Aq1.kept hP.out (grownBy_drew _ none)) hg2); have hb2 : Hid (BK K B w w2) := hid ((BK.drew hb0.out).grown hg2 (Nat.le_trans hB hb0.out.size) (fun k hk => by simp at hk)); have hc2 := hCe.out _ _ hP2.out; obtain ⟨⟨v2, hcv2⟩, ⟨v3, hcv3⟩, hfu3, hfu4, _⟩ := hOl.out _ j g rfl hP2.out hlt2; clear hg2)
            all_goals
              go_wp2_with fail
              go_roundw
              case rel => exact ⟨j + 1, by omega, by go_num, hSt.out _ j g rfl hP2.out hlt2, BK.setCell (BK.setCell hb2.out hgB hKg.out _) hgB hKg.out _⟩
              case measure => simp [intOf]; omega
        · obtain rfl : j = n := by omega
          go_wp2_with fail
          go_roundw
          case rel => exact ⟨k + 1, by omega, by go_num, hNx.out _ hP.out, hb0.out⟩
          case measure => simp [intOf]; omega
    · obtain rfl : k = L0.length := by omega
      have hszw := hb0.out.size
      have hap0 := hid hAp.out.sep.apart
      have h2 := hid (hP.out.toAq2 (eo := 53) hE.out hap0.out (by omega) (by omega))
      obtain ⟨H, hH⟩ : ∃ H, H = wr.heap.size := ⟨_, rfl⟩
      rw [← hH] at h2 hszw
      have hwH := hid hszw
      have hbH := hid hb0.out
      clear hH hP hb0 hap0
      go_wp2_with fail
      go_loopw [5, 6] (fun gs0 i wr => ∃ (G : List RowS) (gs : Value), gs = gs0 ∧ i = .int .i64 G.length ∧ Aq2 wr B lb lo H L0 mkS mgS 59 53 gs G ∧ BK K B w wr) (fun _ i _ => L0.length - (intOf i).toNat)
      case atStart => exact ⟨[], _, rfl, rfl, h2.out, hbH.out⟩
      case round =>
        clear h2 hbH
        obtain ⟨G, gs, rfl, rfl, hp, hb⟩ := hrel
        have hP := hid hp
        have hb0 := hid hb
        have hle := hp.le
        clear hp hb
        by_cases hlt : G.length < L0.length
        · obtain ⟨ao, c, hv, hcase⟩ := hSh.out G.length hlt
          have hnk := hN.out G.length hlt
          have hCe := hid (fun W gs G' (h : Aq2 W B lb lo H L0 mkS mgS 59 53 gs G') (e : G'.length = G.length) => (h.cells G.length hlt).trans (congrArg some hv))
          have hc0 := hCe.out _ _ _ hP.out rfl
          have h3 := hP.out.open hlt
          rw [hv] at h3
          have h3' := hid h3
          clear hcase h3
          generalize hgn : L0[G.length].n = n at *
          have hgn' := hid hgn
          clear hgn
          go_wp2_with fail
          go_loopw [7, 8] (fun cur j wr => ∃ m : Nat, m ≤ 64 ∧ j = .int .i64 m ∧ Aq2c wr B lb lo H L0 mkS mgS 59 53 gs G cur m ∧ BK K B w wr) (fun _ j _ => 64 - (intOf j).toNat)
          case atStart => exact ⟨0, by omega, rfl, h3'.out, hb0.out⟩
          case round =>
            clear h3' hb0 hc0 hP
            obtain ⟨m, hm, rfl, hp, hb⟩ := hrel
            have hP := hid hp
            have hb0 := hid hb
            clear hp hb
            have hc0 := hCe.out _ _ _ hP.out.main rfl
            by_cases hlt2 : m < 64
            · have hw1 : IntKind.i64.wrap ((G.length : Int) + 1) = (G.length : Int) + 1 := IntWalk.i64_in _ (by omega)
              have hw2 : IntKind.i64.wrap ((n : Int) + m) = (n : Int) + m := IntWalk.i64_in _ (by omega)
              go_wp2_with (first | (go_at_call 87; go_must (refine (mark_s _ _ (G.length + 1) (n + m) _ (by simp) (by simp) (by omega) (by omega)).mono ?_); rintro e w2 ⟨rfl, hg2⟩; have hP2 := hid (Aq2c.kept hP.out hg2); have hb2 : Hid (BK K B w w2) := hid (hb0.out.grown hg2 (Nat.le_trans hB hb0.out.size) (fun k hk => by simp at hk)); clear hg2) | (at_builtin; go_must (refine wpList_append_str rfl _ _ 53 rfl B 59 59 (.agg #[.int .u32 0, .int .u32 0]) 2 8 1 Try.underlying53 (by kernel_rfl) rfl (by decide) _ (n + m) _ [.int .u32 (mU (G.length + 1) (n + m)), .int .u32 (mV (G.length + 1))] (0, 0) (by have := hP2.out.own; rw [hgn'.out] at this; exact this) rfl (by simp [Value.oneCell']) (by unfold maxLen; omega) (by omega) (by have := hb2.out.size; omega) rfl rfl ?_); intro v' w3 hA3))
              have hP3 := hid (hP2.out.grow hlt (by rw [hgn'.out]; exact hA3))
              have hb3 : Hid (BK K B w w3) := hid (hb2.out.appended hA3 (by have := hP2.out.own; rw [hgn'.out] at this; exact this) (by have := hb2.out.size; omega) (hP2.out.notK hKH.out hwH.out))
              clear hA3
              go_roundw
              case rel => exact ⟨m + 1, by omega, by go_num, hP3.out, hb3.out⟩
              case measure => simp [intOf]; omega
            · obtain rfl : m = 64 := by omega
              obtain ⟨cao, cc, hcv, -⟩ := own_any_shape hP.out.own
              rw [hgn'.out] at hcv
              subst hcv
              have hgl := hP.out.main.sep.own 0 (by simp)
              simp only [List.getElem_cons_zero] at hgl
              have hgl' := hid hgl
              clear hgl
              go_wp2_with (at_builtin; go_must (refine wpList_append_str rfl _ _ 74 rfl B 53 53 (.slice none 0 0) 1 24 1 Try.underlying74 (by kernel_rfl) rfl (by decide) _ G.length _ [_] (0, 0) hgl'.out rfl (by simp [Value.oneCell']) (by unfold maxLen; omega) (by omega) (Nat.le_trans hB hb0.out.size) rfl rfl ?_); intro v' w3 hA3)
              have hP3 := hid (hP.out.shut hlt hA3)
              have hb3 : Hid (BK K B w w3) := hid (hb0.out.appended hA3 hgl'.out (Nat.le_trans hB hb0.out.size) (hP.out.main.notK hKH.out hwH.out))
              clear hA3
              go_roundw
              case rel => exact ⟨_, _, rfl, by simp, hP3.out, hb3.out⟩
              case measure => simp [intOf]; omega
        · have hGL : G.length = L0.length := by omega
          have hOS := hid (fun W (h : Aq2 W B lb lo H L0 mkS mgS 59 53 gs G) => by have := h.sep.own 0 (by simp); simp only [List.getElem_cons_zero] at this; exact this)
          obtain ⟨gao, gc, hgv, hgcase⟩ := own_any_shape (hOS.out _ hP.out)
          have hgv' := hid hgv
          subst hgv
          have hG' := hid hGL
          clear hGL
          go_wp2_with fail
          go_loopw [9] (fun i wr => ∃ k : Nat, k ≤ L0.length ∧ i = .int .i64 k ∧ Aq2 wr B lb lo H L0 mkS mgS 59 53 (.slice gao G.length gc) G ∧ BK K B w wr) (fun i _ => L0.length - (intOf i).toNat)
          case atStart => exact ⟨0, Nat.zero_le _, rfl, hP.out, hb0.out⟩
          case round =>
            clear hP hb0 hlt
            obtain ⟨k, hk, rfl, hp, hb⟩ := hrel
            have hP := hid hp
            have hb0 := hid hb
            clear hp hb
            by_cases hlt : k < L0.length
            · rcases hgcase with h0 | ⟨gg, rfl⟩
              · have := hG'.out; omega
              have hkG : k < G.length := by have := hG'.out; omega
              have hgL := hid (fun W (h : Aq2 W B lb lo H L0 mkS mgS 59 53 (.slice (some ⟨gg, 0, none⟩) G.length gc) G) => (hOS.out W h).cellAt k (by omega))
              simp only [List.getElem?_map, List.getElem?_eq_getElem hkG, Option.map_some] at hgL
              have hOk := hid (fun W (h : Aq2 W B lb lo H L0 mkS mgS 59 53 (.slice (some ⟨gg, 0, none⟩) G.length gc) G) => by have := h.sep.own (k + 1) (by simpa using hkG); simp only [List.getElem_cons_succ] at this; exact this)
              obtain ⟨e1, e2, e3, e4, _⟩ := hP.out.each k hkG hlt
              obtain ⟨ao, c, hv0, hcase⟩ := hSh.out k hlt
              have hnk := hN.out k hlt
              have hCe := hid (fun W (h : Aq2 W B lb lo H L0 mkS mgS 59 53 (.slice (some ⟨gg, 0, none⟩) G.length gc) G) => (h.cells k hlt).trans (congrArg some hv0))
              have hRd := hid (fun W (h : Aq2 W B lb lo H L0 mkS mgS 59 53 (.slice (some ⟨gg, 0, none⟩) G.length gc) G) => h.reads k hlt)
              rw [e1, e2, e3, e4] at hOk
              rw [hv0] at hRd
              generalize L0[k].n = n at *
              obtain ⟨g2, c2, hv2, _, _, hc2, _⟩ := own_shape (hOk.out _ hP.out) (by omega)
              rw [hv2] at hOk hgL
              clear e1 e2 e3 e4 hv0 hv2
              have hM2 := hid (fun W (h : Aq2 W B lb lo H L0 mkS mgS 59 53 (.slice (some ⟨gg, 0, none⟩) G.length gc) G) m (hm : m < n + 64) => And.intro (((hOk.out W h).cellAt (m * 2) (by omega)).trans (pairsM_get mkS mgS k _ m hm).1) (((hOk.out W h).cellAt (m * 2 + 1) (by omega)).trans (pairsM_get mkS mgS k _ m hm).2))
              have hM0 := hid (fun W (h : Aq2 W B lb lo H L0 mkS mgS 59 53 (.slice (some ⟨gg, 0, none⟩) G.length gc) G) m g (hg : ao = some ⟨g, 0, none⟩) (hm : m < n) => by have := hRd.out W h; rw [hg] at this; exact And.intro ((this.cellAt (m * 2) (by omega)).trans (pairsM_get mkS mgS k _ m hm).1) ((this.cellAt (m * 2 + 1) (by omega)).trans (pairsM_get mkS mgS k _ m hm).2))
              clear hOk hRd
              have hc0 := hgL.out _ hP.out
              have hc1 := hCe.out _ hP.out
              go_wp2_with fail
              go_loopw [10] (fun i wr => ∃ m : Nat, m ≤ n + 64 ∧ i = .int .i64 m ∧ Aq2 wr B lb lo H L0 mkS mgS 59 53 (.slice (some ⟨gg, 0, none⟩) G.length gc) G ∧ BK K B w wr) (fun i _ => n + 64 - (intOf i).toNat)
              case atStart => exact ⟨0, Nat.zero_le _, rfl, hP.out, hb0.out⟩
              case round =>
                clear hc0 hc1 hP hb0
                obtain ⟨m, hm, rfl, hp, hb⟩ := hrel
                have hP := hid hp
                have hb0 := hid hb
                have hsz := hb.size
                clear hp hb
                have hc0 := hgL.out _ hP.out
                by_cases hlt2 : m < n + 64
                · by_cases hlt3 : m < n
                  · rcases hcase with h0 | ⟨g0, rfl⟩
                    · omega
                    have hSS : Hid (∀ W, (Aq2 W B lb lo H L0 mkS mgS 59 53 (.slice (some ⟨gg, 0, none⟩) G.length gc) G ∧ BK K B w W) → ((Aq2 W B lb lo H L0 mkS mgS 59 53 (.slice (some ⟨gg, 0, none⟩) G.length gc) G ∧ BK K B w W) ∧ W.cell? ⟨gg, k, none⟩ = some (.slice (some ⟨g2, 0, none⟩) (n + 64) c2) ∧ W.cell? ⟨g2, m * 2, none⟩ = some (mkS k m) ∧ W.cell? ⟨g2, m * 2 + 1, none⟩ = some (mgS k m) ∧ W.cell? ⟨lb, lo + k, none⟩ = some (.slice (some ⟨g0, 0, none⟩) n c) ∧ W.cell? ⟨g0, m * 2, none⟩ = some (mkS k m) ∧ W.cell? ⟨g0, m * 2 + 1, none⟩ = some (mgS k m))) := fun W h => ⟨h, hgL.out W h.1, (hM2.out W h.1 m hlt2).1, (hM2.out W h.1 m hlt2).2, hCe.out W h.1, (hM0.out W h.1 m g0 rfl hlt3).1, (hM0.out W h.1 m g0 rfl hlt3).2⟩
                    have hcall : Hid (∀ W, ((Aq2 W B lb lo H L0 mkS mgS 59 53 (.slice (some ⟨gg, 0, none⟩) G.length gc) G ∧ BK K B w W) ∧ W.cell? ⟨gg, k, none⟩ = some (.slice (some ⟨g2, 0, none⟩) (n + 64) c2) ∧ W.cell? ⟨g2, m * 2, none⟩ = some (mkS k m) ∧ W.cell? ⟨g2, m * 2 + 1, none⟩ = some (mgS k m) ∧ W.cell? ⟨lb, lo + k, none⟩ = some (.slice (some ⟨g0, 0, none⟩) n c) ∧ W.cell? ⟨g0, m * 2, none⟩ = some (mkS k m) ∧ W.cell? ⟨g0, m * 2 + 1, none⟩ = some (mgS k m)) → Calls Try.prog 87 #[.int .i64 ((k : Int) + 1), .int .i64 m] W fun e w' => e = .returned (.agg #[.int .u32 (mU (k + 1) m), .int .u32 (mV (k + 1))]) ∧ ((Aq2 w' B lb lo H L0 mkS mgS 59 53 (.slice (some ⟨gg, 0, none⟩) G.length gc) G ∧ BK K B w w') ∧ w'.cell? ⟨gg, k, none⟩ = some (.slice (some ⟨g2, 0, none⟩) (n + 64) c2) ∧ w'.cell? ⟨g2, m * 2, none⟩ = some (mkS k m) ∧ w'.cell? ⟨g2, m * 2 + 1, none⟩ = some (mgS k m) ∧ w'.cell? ⟨lb, lo + k, none⟩ = some (.slice (some ⟨g0, 0, none⟩) n c) ∧ w'.cell? ⟨g0, m * 2, none⟩ = some (mkS k m) ∧ w'.cell? ⟨g0, m * 2 + 1, none⟩ = some (mgS k m))) := fun W h => (mark_s _ _ (k + 1) m W (by simp) rfl (by omega) (by omega)).mono (fun e w' h2 => ⟨h2.1, hSS.out w' ⟨h.1.1.kept h2.2, h.1.2.grown h2.2 (Nat.le_trans hB h.1.2.size) (fun q hq => by simp at hq)⟩⟩)
                    have hS0 := hid (hSS.out _ ⟨hP.out.kept (grownBy_drew wr none), BK.drew hb0.out⟩)
                    obtain ⟨U, hU⟩ : ∃ U, U = mU (k + 1) m := ⟨_, rfl⟩
                    obtain ⟨V, hVV⟩ : ∃ V, V = mV (k + 1) := ⟨_, rfl⟩
                    simp only [mkS, mgS, ← hU, ← hVV] at hSS hcall hS0
                    have hw1 : IntKind.i64.wrap ((k : Int) + 1) = (k : Int) + 1 := IntWalk.i64_in _ (by omega)
                    have hi1 : (0 : Int) ≤ (k : Int) := by omega
                    have hi2 : (0 : Int) ≤ (m : Int) := by omega
                    have hi3 : (k : Int) < (L0.length : Int) := by omega
                    have hi4 : (m : Int) < (n : Int) + 64 := by omega
                    have hi5 : (k : Int) < (G.length : Int) := by omega
                    have hi6 : ((m : Int) < (n : Int)) = True := eq_true (by omega)
                    clear hU hVV hgL hM2 hM0 hCe hOS hSh hN hLen hE hAp hP hb0
                    go_wp2_with fail
                    refine wp_region_held_drew (S := fun W => (Aq2 W B lb lo H L0 mkS mgS 59 53 (.slice (some ⟨gg, 0, none⟩) G.length gc) G ∧ BK K B w W) ∧ W.cell? ⟨gg, k, none⟩ = some (.slice (some ⟨g2, 0, none⟩) (n + 64) c2) ∧ W.cell? ⟨g2, m * 2, none⟩ = some (.int .u32 U) ∧ W.cell? ⟨g2, m * 2 + 1, none⟩ = some (.int .u32 V) ∧ W.cell? ⟨lb, lo + k, none⟩ = some (.slice (some ⟨g0, 0, none⟩) n c) ∧ W.cell? ⟨g0, m * 2, none⟩ = some (.int .u32 U) ∧ W.cell? ⟨g0, m * 2 + 1, none⟩ = some (.int .u32 V)) (by kernel_rfl) hS0.out (fun hHeld => ?_)
                    refine wpAnyH_take (i := 0) (v := ?_) (by simp only [List.getElem?_toArray, List.getElem?_cons_succ, List.getElem?_cons_zero]; rfl) (by kernel_rfl) (by kernel_rfl) (by kernel_rfl) (by intro _ _ _ h; exact h) (Or.inl ⟨by rfl, ?_⟩) (by assumption) ?_
                    rotate_left
                    · intro w' hSw; (try dsimp only at hSw); go_simp; (try with_reducible rfl)
                    try simp only [Act.put, List.setIfInBounds_toArray, List.set_cons_zero, List.set_cons_succ]
                    refine wpAnyH_take (i := 1) (v := ?_) (by simp only [List.getElem?_toArray, List.getElem?_cons_succ, List.getElem?_cons_zero]; rfl) (by kernel_rfl) (by kernel_rfl) (by kernel_rfl) (by intro _ _ _ h; exact h) (Or.inl ⟨by rfl, ?_⟩) (by assumption) ?_
                    rotate_left
                    · intro w' hSw; (try dsimp only at hSw); go_simp; (try with_reducible rfl)
                    try simp only [Act.put, List.setIfInBounds_toArray, List.set_cons_zero, List.set_cons_succ]
                    refine wpAnyH_take (i := 2) (v := ?_) (by simp only [List.getElem?_toArray, List.getElem?_cons_succ, List.getElem?_cons_zero]; rfl) (by kernel_rfl) (by kernel_rfl) (by kernel_rfl) (by intro _ _ _ h; exact h) (Or.inl ⟨by rfl, ?_⟩) (by assumption) ?_
                    rotate_left
                    · intro w' hSw; (try dsimp only at hSw); go_simp; (try with_reducible rfl)
                    try simp only [Act.put, List.setIfInBounds_toArray, List.set_cons_zero, List.set_cons_succ]
                    refine wpAnyH_take (i := 3) (v := ?_) (by simp only [List.getElem?_toArray, List.getElem?_cons_succ, List.getElem?_cons_zero]; rfl) (by kernel_rfl) (by kernel_rfl) (by kernel_rfl) (by intro _ _ _ h; exact h) (Or.inl ⟨by rfl, ?_⟩) (by assumption) ?_
                    rotate_left
                    · intro w' hSw; (try dsimp only at hSw); go_simp; (try with_reducible rfl)
                    try simp only [Act.put, List.setIfInBounds_toArray, List.set_cons_zero, List.set_cons_succ]
                    refine wpAnyH_take (i := 4) (v := ?_) (by simp only [List.getElem?_toArray, List.getElem?_cons_succ, List.getElem?_cons_zero]; rfl) (by kernel_rfl) (by kernel_rfl) (by kernel_rfl) (by intro _ _ _ h; exact h) (Or.inl ⟨by rfl, ?_⟩) (by assumption) ?_
                    rotate_left
                    · intro w' hSw; (try dsimp only at hSw); go_simp; (try with_reducible rfl)
                    try simp only [Act.put, List.setIfInBounds_toArray, List.set_cons_zero, List.set_cons_succ]
                    refine wpAnyH_take (i := 5) (v := ?_) (by simp only [List.getElem?_toArray, List.getElem?_cons_succ, List.getElem?_cons_zero]; rfl) (by kernel_rfl) (by kernel_rfl) (by kernel_rfl) (by intro _ _ _ h; exact h) (Or.inl ⟨by rfl, ?_⟩) (by assumption) ?_
                    rotate_left
                    · intro w' hSw; (try dsimp only at hSw); go_simp; (try with_reducible rfl)
                    try simp only [Act.put, List.setIfInBounds_toArray, List.set_cons_zero, List.set_cons_succ]
                    refine wpAnyH_take (i := 6) (v := ?_) (by simp only [List.getElem?_toArray, List.getElem?_cons_succ, List.getElem?_cons_zero]; rfl) (by kernel_rfl) (by kernel_rfl) (by kernel_rfl) (by intro _ _ _ h; exact h) (Or.inl ⟨by rfl, ?_⟩) (by assumption) ?_
                    rotate_left
                    · intro w' hSw; (try dsimp only at hSw); go_simp; (try with_reducible rfl)
                    try simp only [Act.put, List.setIfInBounds_toArray, List.set_cons_zero, List.set_cons_succ]
                    refine wpAnyH_take (i := 7) (v := ?_) (by simp only [List.getElem?_toArray, List.getElem?_cons_succ, List.getElem?_cons_zero]; rfl) (by kernel_rfl) (by kernel_rfl) (by kernel_rfl) (by intro _ _ _ h; exact h) (Or.inl ⟨by rfl, ?_⟩) (by assumption) ?_
                    rotate_left
                    · intro w' hSw; (try dsimp only at hSw); go_simp; (try with_reducible rfl)
                    try simp only [Act.put, List.setIfInBounds_toArray, List.set_cons_zero, List.set_cons_succ]
                    refine wpAnyH_take (i := 8) (v := ?_) (by simp only [List.getElem?_toArray, List.getElem?_cons_succ, List.getElem?_cons_zero]; rfl) (by kernel_rfl) (by kernel_rfl) (by kernel_rfl) (by intro _ _ _ h; exact h) (Or.inl ⟨by rfl, ?_⟩) (by assumption) ?_
                    rotate_left
                    · intro w' hSw; (try dsimp only at hSw); go_simp; (try with_reducible rfl)
                    try simp only [Act.put, List.setIfInBounds_toArray, List.set_cons_zero, List.set_cons_succ]
                    refine wpAnyH_take (i := 9) (v := ?_) (by simp only [List.getElem?_toArray, List.getElem?_cons_succ, List.getElem?_cons_zero]; rfl) (by kernel_rfl) (by kernel_rfl) (by kernel_rfl) (by intro _ _ _ h; exact h) (Or.inl ⟨by rfl, ?_⟩) (by assumption) ?_
                    rotate_left
                    · intro w' hSw; (try dsimp only at hSw); go_simp; (try with_reducible rfl)
                    try simp only [Act.put, List.setIfInBounds_toArray, List.set_cons_zero, List.set_cons_succ]
                    refine wpAnyH_ready (rs := [10]) (by kernel_rfl) (by simp) ?_
                    refine AllReadyH.cons (by simp only [List.getElem?_toArray, List.getElem?_cons_succ, List.getElem?_cons_zero]; rfl) (fun K hK => ?_) AllReadyH.nil
                    go_simp
                    go_at_call 87
                    refine (hcall.out _ hHeld).mono ?_
                    rintro e w2 ⟨rfl, hk⟩
                    clear hHeld
                    go_wp2_with fail
                    refine hK.out _ _ hk (fun hHeld => ?_)
                    clear hK K hk
                    try simp only [Act.put, List.setIfInBounds_toArray, List.set_cons_zero, List.set_cons_succ]
                    refine wpAnyH_take (i := 11) (v := ?_) (by simp only [List.getElem?_toArray, List.getElem?_cons_succ, List.getElem?_cons_zero]; rfl) (by kernel_rfl) (by kernel_rfl) (by kernel_rfl) (by intro _ _ _ h; exact h) (Or.inl ⟨by rfl, ?_⟩) (by assumption) ?_
                    rotate_left
                    · intro w' hSw; (try dsimp only at hSw); go_simp; (try with_reducible rfl)
                    try simp only [Act.put, List.setIfInBounds_toArray, List.set_cons_zero, List.set_cons_succ]
                    refine wpAnyH_take (i := 12) (v := ?_) (by simp only [List.getElem?_toArray, List.getElem?_cons_succ, List.getElem?_cons_zero]; rfl) (by kernel_rfl) (by kernel_rfl) (by kernel_rfl) (by intro _ _ _ h; exact h) (Or.inl ⟨by rfl, ?_⟩) (by assumption) ?_
                    rotate_left
                    · intro w' hSw; (try dsimp only at hSw); go_simp; (try with_reducible rfl)
                    try simp only [Act.put, List.setIfInBounds_toArray, List.set_cons_zero, List.set_cons_succ]
                    refine wpAnyH_take (i := 13) (v := ?_) (by simp only [List.getElem?_toArray, List.getElem?_cons_succ, List.getElem?_cons_zero]; rfl) (by kernel_rfl) (by kernel_rfl) (by kernel_rfl) (by intro _ _ _ h; exact h) (Or.inl ⟨by rfl, ?_⟩) (by assumption) ?_
                    rotate_left
                    · intro w' hSw; (try dsimp only at hSw); go_simp; (try with_reducible rfl)
                    try simp only [Act.put, List.setIfInBounds_toArray, List.set_cons_zero, List.set_cons_succ]
                    refine wpAnyH_take (i := 14) (v := ?_) (by simp only [List.getElem?_toArray, List.getElem?_cons_succ, List.getElem?_cons_zero]; rfl) (by kernel_rfl) (by kernel_rfl) (by kernel_rfl) (by intro _ _ _ h; exact h) (Or.inl ⟨by rfl, ?_⟩) (by assumption) ?_
                    rotate_left
                    · intro w' hSw; (try dsimp only at hSw); go_simp; (try with_reducible rfl)
                    try simp only [Act.put, List.setIfInBounds_toArray, List.set_cons_zero, List.set_cons_succ]
                    refine wpAnyH_take (i := 15) (v := ?_) (by simp only [List.getElem?_toArray, List.getElem?_cons_succ, List.getElem?_cons_zero]; rfl) (by kernel_rfl) (by kernel_rfl) (by kernel_rfl) (by intro _ _ _ h; exact h) (Or.inl ⟨by rfl, ?_⟩) (by assumption) ?_
                    rotate_left
                    · intro w' hSw; (try dsimp only at hSw); go_simp; (try with_reducible rfl)
                    try simp only [Act.put, List.setIfInBounds_toArray, List.set_cons_zero, List.set_cons_succ]
                    refine wpAnyH_take (i := 16) (v := ?_) (by simp only [List.getElem?_toArray, List.getElem?_cons_succ, List.getElem?_cons_zero]; rfl) (by kernel_rfl) (by kernel_rfl) (by kernel_rfl) (by intro _ _ _ h; exact h) (Or.inl ⟨by rfl, ?_⟩) (by assumption) ?_
                    rotate_left
                    · intro w' hSw; (try dsimp only at hSw); go_simp; (try with_reducible rfl)
                    try simp only [Act.put, List.setIfInBounds_toArray, List.set_cons_zero, List.set_cons_succ]
                    refine wpAnyH_take (i := 17) (v := ?_) (by simp only [List.getElem?_toArray, List.getElem?_cons_succ, List.getElem?_cons_zero]; rfl) (by kernel_rfl) (by kernel_rfl) (by kernel_rfl) (by intro _ _ _ h; exact h) (Or.inl ⟨by rfl, ?_⟩) (by assumption) ?_
                    rotate_left
                    · intro w' hSw; (try dsimp only at hSw); go_simp; (try with_reducible rfl)
                    try simp only [Act.put, List.setIfInBounds_toArray, List.set_cons_zero, List.set_cons_succ]
                    refine wpAnyH_take (i := 18) (v := ?_) (by simp only [List.getElem?_toArray, List.getElem?_cons_succ, List.getElem?_cons_zero]; rfl) (by kernel_rfl) (by kernel_rfl) (by kernel_rfl) (by intro _ _ _ h; exact h) (Or.inl ⟨by rfl, ?_⟩) (by assumption) ?_
                    rotate_left
                    · intro w' hSw; (try dsimp only at hSw); go_simp; (try with_reducible rfl)
                    try simp only [Act.put, List.setIfInBounds_toArray, List.set_cons_zero, List.set_cons_succ]
                    refine wpAnyH_take (i := 19) (v := ?_) (by simp only [List.getElem?_toArray, List.getElem?_cons_succ, List.getElem?_cons_zero]; rfl) (by kernel_rfl) (by kernel_rfl) (by kernel_rfl) (by intro _ _ _ h; exact h) (Or.inl ⟨by rfl, ?_⟩) (by assumption) ?_
                    rotate_left
                    · intro w' hSw; (try dsimp only at hSw); go_simp; (try with_reducible rfl)
                    try simp only [Act.put, List.setIfInBounds_toArray, List.set_cons_zero, List.set_cons_succ]
                    refine wpAnyH_take (i := 20) (v := ?_) (by simp only [List.getElem?_toArray, List.getElem?_cons_succ, List.getElem?_cons_zero]; rfl) (by kernel_rfl) (by kernel_rfl) (by kernel_rfl) (by intro _ _ _ h; exact h) (Or.inl ⟨by rfl, ?_⟩) (by assumption) ?_
                    rotate_left
                    · intro w' hSw; (try dsimp only at hSw); go_simp; (try with_reducible rfl)
                    try simp only [Act.put, List.setIfInBounds_toArray, List.set_cons_zero, List.set_cons_succ]
                    refine wpAnyH_take (i := 21) (v := ?_) (by simp only [List.getElem?_toArray, List.getElem?_cons_succ, List.getElem?_cons_zero]; rfl) (by kernel_rfl) (by kernel_rfl) (by kernel_rfl) (by intro _ _ _ h; exact h) (Or.inl ⟨by rfl, ?_⟩) (by assumption) ?_
                    rotate_left
                    · intro w' hSw; (try dsimp only at hSw); go_simp; (try with_reducible rfl)
                    try simp only [Act.put, List.setIfInBounds_toArray, List.set_cons_zero, List.set_cons_succ]
                    refine wpAnyH_take (i := 22) (v := ?_) (by simp only [List.getElem?_toArray, List.getElem?_cons_succ, List.getElem?_cons_zero]; rfl) (by kernel_rfl) (by kernel_rfl) (by kernel_rfl) (by intro _ _ _ h; exact h) (Or.inl ⟨by rfl, ?_⟩) (by assumption) ?_
                    rotate_left
                    · intro w' hSw; (try dsimp only at hSw); go_simp; (try with_reducible rfl)
                    try simp only [Act.put, List.setIfInBounds_toArray, List.set_cons_zero, List.set_cons_succ]
                    refine wpAnyH_take (i := 23) (v := ?_) (by simp only [List.getElem?_toArray, List.getElem?_cons_succ, List.getElem?_cons_zero]; rfl) (by kernel_rfl) (by kernel_rfl) (by kernel_rfl) (by intro _ _ _ h; exact h) (Or.inl ⟨by rfl, ?_⟩) (by assumption) ?_
                    rotate_left
                    · intro w' hSw; (try dsimp only at hSw); go_simp; (try with_reducible rfl)
                    try simp only [Act.put, List.setIfInBounds_toArray, List.set_cons_zero, List.set_cons_succ]
                    refine wpAnyH_take (i := 24) (v := ?_) (by simp only [List.getElem?_toArray, List.getElem?_cons_succ, List.getElem?_cons_zero]; rfl) (by kernel_rfl) (by kernel_rfl) (by kernel_rfl) (by intro _ _ _ h; exact h) (Or.inl ⟨by rfl, ?_⟩) (by assumption) ?_
                    rotate_left
                    · intro w' hSw; (try dsimp only at hSw); go_simp; (try with_reducible rfl)
                    try simp only [Act.put, List.setIfInBounds_toArray, List.set_cons_zero, List.set_cons_succ]
                    refine wpAnyH_take (i := 25) (v := ?_) (by simp only [List.getElem?_toArray, List.getElem?_cons_succ, List.getElem?_cons_zero]; rfl) (by kernel_rfl) (by kernel_rfl) (by kernel_rfl) (by intro _ _ _ h; exact h) (Or.inl ⟨by rfl, ?_⟩) (by assumption) ?_
                    rotate_left
                    · intro w' hSw; (try dsimp only at hSw); go_simp; (try with_reducible rfl)
                    try simp only [Act.put, List.setIfInBounds_toArray, List.set_cons_zero, List.set_cons_succ]
                    refine wpAnyH_take (i := 26) (v := ?_) (by simp only [List.getElem?_toArray, List.getElem?_cons_succ, List.getElem?_cons_zero]; rfl) (by kernel_rfl) (by kernel_rfl) (by kernel_rfl) (by intro _ _ _ h; exact h) (Or.inl ⟨by rfl, ?_⟩) (by assumption) ?_
                    rotate_left
                    · intro w' hSw; (try dsimp only at hSw); go_simp; (try with_reducible rfl)
                    try simp only [Act.put, List.setIfInBounds_toArray, List.set_cons_zero, List.set_cons_succ]
                    refine wpAnyH_take (i := 27) (v := ?_) (by simp only [List.getElem?_toArray, List.getElem?_cons_succ, List.getElem?_cons_zero]; rfl) (by kernel_rfl) (by kernel_rfl) (by kernel_rfl) (by intro _ _ _ h; exact h) (Or.inl ⟨by rfl, ?_⟩) (by assumption) ?_
                    rotate_left
                    · intro w' hSw; (try dsimp only at hSw); go_simp; (try with_reducible rfl)
                    try simp only [Act.put, List.setIfInBounds_toArray, List.set_cons_zero, List.set_cons_succ]
                    refine wpAnyH_take (i := 28) (v := ?_) (by simp only [List.getElem?_toArray, List.getElem?_cons_succ, List.getElem?_cons_zero]; rfl) (by kernel_rfl) (by kernel_rfl) (by kernel_rfl) (by intro _ _ _ h; exact h) (Or.inl ⟨by rfl, ?_⟩) (by assumption) ?_
                    rotate_left
                    · intro w' hSw; (try dsimp only at hSw); go_simp; (try with_reducible rfl)
                    try simp only [Act.put, List.setIfInBounds_toArray, List.set_cons_zero, List.set_cons_succ]
                    refine wpAnyH_take (i := 29) (v := ?_) (by simp only [List.getElem?_toArray, List.getElem?_cons_succ, List.getElem?_cons_zero]; rfl) (by kernel_rfl) (by kernel_rfl) (by kernel_rfl) (by intro _ _ _ h; exact h) (Or.inl ⟨by rfl, ?_⟩) (by assumption) ?_
                    rotate_left
                    · intro w' hSw; (try dsimp only at hSw); go_simp; (try with_reducible rfl)
                    try simp only [Act.put, List.setIfInBounds_toArray, List.set_cons_zero, List.set_cons_succ]
                    refine wpAnyH_take (i := 30) (v := ?_) (by simp only [List.getElem?_toArray, List.getElem?_cons_succ, List.getElem?_cons_zero]; rfl) (by kernel_rfl) (by kernel_rfl) (by kernel_rfl) (by intro _ _ _ h; exact h) (Or.inl ⟨by rfl, ?_⟩) (by assumption) ?_
                    rotate_left
                    · intro w' hSw; (try dsimp only at hSw); go_simp; (try with_reducible rfl)
                    try simp only [Act.put, List.setIfInBounds_toArray, List.set_cons_zero, List.set_cons_succ]
                    refine wpAnyH_ready (rs := [31]) (by kernel_rfl) (by simp) ?_
                    refine AllReadyH.cons (by simp only [List.getElem?_toArray, List.getElem?_cons_succ, List.getElem?_cons_zero]; rfl) (fun K hK => ?_) AllReadyH.nil
                    go_simp
                    go_at_call 87
                    refine (hcall.out _ hHeld).mono ?_
                    rintro e w2 ⟨rfl, hk⟩
                    clear hHeld
                    go_wp2_with fail
                    refine hK.out _ _ hk (fun hHeld => ?_)
                    clear hK K hk
                    try simp only [Act.put, List.setIfInBounds_toArray, List.set_cons_zero, List.set_cons_succ]
                    refine wpAnyH_take (i := 32) (v := ?_) (by simp only [List.getElem?_toArray, List.getElem?_cons_succ, List.getElem?_cons_zero]; rfl) (by kernel_rfl) (by kernel_rfl) (by kernel_rfl) (by intro _ _ _ h; exact h) (Or.inl ⟨by rfl, ?_⟩) (by assumption) ?_
                    rotate_left
                    · intro w' hSw; (try dsimp only at hSw); go_simp; (try with_reducible rfl)
                    try simp only [Act.put, List.setIfInBounds_toArray, List.set_cons_zero, List.set_cons_succ]
                    refine wpAnyH_take (i := 33) (v := ?_) (by simp only [List.getElem?_toArray, List.getElem?_cons_succ, List.getElem?_cons_zero]; rfl) (by kernel_rfl) (by kernel_rfl) (by kernel_rfl) (by intro _ _ _ h; exact h) (Or.inl ⟨by rfl, ?_⟩) (by assumption) ?_
                    rotate_left
                    · intro w' hSw; (try dsimp only at hSw); go_simp; (try with_reducible rfl)
                    try simp only [Act.put, List.setIfInBounds_toArray, List.set_cons_zero, List.set_cons_succ]
                    refine wpAnyH_take (i := 34) (v := ?_) (by simp only [List.getElem?_toArray, List.getElem?_cons_succ, List.getElem?_cons_zero]; rfl) (by kernel_rfl) (by kernel_rfl) (by kernel_rfl) (by intro _ _ _ h; exact h) (Or.inl ⟨by rfl, ?_⟩) (by assumption) ?_
                    rotate_left
                    · intro w' hSw; (try dsimp only at hSw); go_simp; (try with_reducible rfl)
                    try simp only [Act.put, List.setIfInBounds_toArray, List.set_cons_zero, List.set_cons_succ]
                    refine wpAnyH_done (by kernel_rfl) ?_ _
                    go_wp2_with fail
                    go_roundw
                    case rel => exact ⟨m + 1, by omega, by go_num, hHeld.1.1, hHeld.1.2⟩
                    case measure => simp [intOf]; omega
                  · have hSS : Hid (∀ W, (Aq2 W B lb lo H L0 mkS mgS 59 53 (.slice (some ⟨gg, 0, none⟩) G.length gc) G ∧ BK K B w W) → ((Aq2 W B lb lo H L0 mkS mgS 59 53 (.slice (some ⟨gg, 0, none⟩) G.length gc) G ∧ BK K B w W) ∧ W.cell? ⟨gg, k, none⟩ = some (.slice (some ⟨g2, 0, none⟩) (n + 64) c2) ∧ W.cell? ⟨g2, m * 2, none⟩ = some (mkS k m) ∧ W.cell? ⟨g2, m * 2 + 1, none⟩ = some (mgS k m) ∧ W.cell? ⟨lb, lo + k, none⟩ = some (.slice ao n c))) := fun W h => ⟨h, hgL.out W h.1, (hM2.out W h.1 m hlt2).1, (hM2.out W h.1 m hlt2).2, hCe.out W h.1⟩
                    have hcall : Hid (∀ W, ((Aq2 W B lb lo H L0 mkS mgS 59 53 (.slice (some ⟨gg, 0, none⟩) G.length gc) G ∧ BK K B w W) ∧ W.cell? ⟨gg, k, none⟩ = some (.slice (some ⟨g2, 0, none⟩) (n + 64) c2) ∧ W.cell? ⟨g2, m * 2, none⟩ = some (mkS k m) ∧ W.cell? ⟨g2, m * 2 + 1, none⟩ = some (mgS k m) ∧ W.cell? ⟨lb, lo + k, none⟩ = some (.slice ao n c)) → Calls Try.prog 87 #[.int .i64 ((k : Int) + 1), .int .i64 m] W fun e w' => e = .returned (.agg #[.int .u32 (mU (k + 1) m), .int .u32 (mV (k + 1))]) ∧ ((Aq2 w' B lb lo H L0 mkS mgS 59 53 (.slice (some ⟨gg, 0, none⟩) G.length gc) G ∧ BK K B w w') ∧ w'.cell? ⟨gg, k, none⟩ = some (.slice (some ⟨g2, 0, none⟩) (n + 64) c2) ∧ w'.cell? ⟨g2, m * 2, none⟩ = some (mkS k m) ∧ w'.cell? ⟨g2, m * 2 + 1, none⟩ = some (mgS k m) ∧ w'.cell? ⟨lb, lo + k, none⟩ = some (.slice ao n c))) := fun W h => (mark_s _ _ (k + 1) m W (by simp) rfl (by omega) (by omega)).mono (fun e w' h2 => ⟨h2.1, hSS.out w' ⟨h.1.1.kept h2.2, h.1.2.grown h2.2 (Nat.le_trans hB h.1.2.size) (fun q hq => by simp at hq)⟩⟩)
                    have hS0 := hid (hSS.out _ ⟨hP.out.kept (grownBy_drew wr none), BK.drew hb0.out⟩)
                    obtain ⟨U, hU⟩ : ∃ U, U = mU (k + 1) m := ⟨_, rfl⟩
                    obtain ⟨V, hVV⟩ : ∃ V, V = mV (k + 1) := ⟨_, rfl⟩
                    simp only [mkS, mgS, ← hU, ← hVV] at hSS hcall hS0
                    have hw1 : IntKind.i64.wrap ((k : Int) + 1) = (k : Int) + 1 := IntWalk.i64_in _ (by omega)
                    have hi1 : (0 : Int) ≤ (k : Int) := by omega
                    have hi2 : (0 : Int) ≤ (m : Int) := by omega
                    have hi3 : (k : Int) < (L0.length : Int) := by omega
                    have hi4 : (m : Int) < (n : Int) + 64 := by omega
                    have hi5 : (k : Int) < (G.length : Int) := by omega
                    have hi6 : ((m : Int) < (n : Int)) = False := eq_false (by omega)
                    clear hU hVV hgL hM2 hM0 hCe hOS hSh hN hLen hE hAp hP hb0
                    go_wp2_with fail
                    refine wp_region_held_drew (S := fun W => (Aq2 W B lb lo H L0 mkS mgS 59 53 (.slice (some ⟨gg, 0, none⟩) G.length gc) G ∧ BK K B w W) ∧ W.cell? ⟨gg, k, none⟩ = some (.slice (some ⟨g2, 0, none⟩) (n + 64) c2) ∧ W.cell? ⟨g2, m * 2, none⟩ = some (.int .u32 U) ∧ W.cell? ⟨g2, m * 2 + 1, none⟩ = some (.int .u32 V) ∧ W.cell? ⟨lb, lo + k, none⟩ = some (.slice ao n c)) (by kernel_rfl) hS0.out (fun hHeld => ?_)
                    refine wpAnyH_take (i := 0) (v := ?_) (by simp only [List.getElem?_toArray, List.getElem?_cons_succ, List.getElem?_cons_zero]; rfl) (by kernel_rfl) (by kernel_rfl) (by kernel_rfl) (by intro _ _ _ h; exact h) (Or.inl ⟨by rfl, ?_⟩) (by assumption) ?_
                    rotate_left
                    · intro w' hSw; (try dsimp only at hSw); go_simp; (try with_reducible rfl)
                    try simp only [Act.put, List.setIfInBounds_toArray, List.set_cons_zero, List.set_cons_succ]
                    refine wpAnyH_take (i := 1) (v := ?_) (by simp only [List.getElem?_toArray, List.getElem?_cons_succ, List.getElem?_cons_zero]; rfl) (by kernel_rfl) (by kernel_rfl) (by kernel_rfl) (by intro _ _ _ h; exact h) (Or.inl ⟨by rfl, ?_⟩) (by assumption) ?_
                    rotate_left
                    · intro w' hSw; (try dsimp only at hSw); go_simp; (try with_reducible rfl)
                    try simp only [Act.put, List.setIfInBounds_toArray, List.set_cons_zero, List.set_cons_succ]
                    refine wpAnyH_take (i := 2) (v := ?_) (by simp only [List.getElem?_toArray, List.getElem?_cons_succ, List.getElem?_cons_zero]; rfl) (by kernel_rfl) (by kernel_rfl) (by kernel_rfl) (by intro _ _ _ h; exact h) (Or.inl ⟨by rfl, ?_⟩) (by assumption) ?_
                    rotate_left
                    · intro w' hSw; (try dsimp only at hSw); go_simp; (try with_reducible rfl)
                    try simp only [Act.put, List.setIfInBounds_toArray, List.set_cons_zero, List.set_cons_succ]
                    refine wpAnyH_take (i := 3) (v := ?_) (by simp only [List.getElem?_toArray, List.getElem?_cons_succ, List.getElem?_cons_zero]; rfl) (by kernel_rfl) (by kernel_rfl) (by kernel_rfl) (by intro _ _ _ h; exact h) (Or.inl ⟨by rfl, ?_⟩) (by assumption) ?_
                    rotate_left
                    · intro w' hSw; (try dsimp only at hSw); go_simp; (try with_reducible rfl)
                    try simp only [Act.put, List.setIfInBounds_toArray, List.set_cons_zero, List.set_cons_succ]
                    refine wpAnyH_take (i := 4) (v := ?_) (by simp only [List.getElem?_toArray, List.getElem?_cons_succ, List.getElem?_cons_zero]; rfl) (by kernel_rfl) (by kernel_rfl) (by kernel_rfl) (by intro _ _ _ h; exact h) (Or.inl ⟨by rfl, ?_⟩) (by assumption) ?_
                    rotate_left
                    · intro w' hSw; (try dsimp only at hSw); go_simp; (try with_reducible rfl)
                    try simp only [Act.put, List.setIfInBounds_toArray, List.set_cons_zero, List.set_cons_succ]
                    refine wpAnyH_take (i := 5) (v := ?_) (by simp only [List.getElem?_toArray, List.getElem?_cons_succ, List.getElem?_cons_zero]; rfl) (by kernel_rfl) (by kernel_rfl) (by kernel_rfl) (by intro _ _ _ h; exact h) (Or.inl ⟨by rfl, ?_⟩) (by assumption) ?_
                    rotate_left
                    · intro w' hSw; (try dsimp only at hSw); go_simp; (try with_reducible rfl)
                    try simp only [Act.put, List.setIfInBounds_toArray, List.set_cons_zero, List.set_cons_succ]
                    refine wpAnyH_take (i := 6) (v := ?_) (by simp only [List.getElem?_toArray, List.getElem?_cons_succ, List.getElem?_cons_zero]; rfl) (by kernel_rfl) (by kernel_rfl) (by kernel_rfl) (by intro _ _ _ h; exact h) (Or.inl ⟨by rfl, ?_⟩) (by assumption) ?_
                    rotate_left
                    · intro w' hSw; (try dsimp only at hSw); go_simp; (try with_reducible rfl)
                    try simp only [Act.put, List.setIfInBounds_toArray, List.set_cons_zero, List.set_cons_succ]
                    refine wpAnyH_take (i := 7) (v := ?_) (by simp only [List.getElem?_toArray, List.getElem?_cons_succ, List.getElem?_cons_zero]; rfl) (by kernel_rfl) (by kernel_rfl) (by kernel_rfl) (by intro _ _ _ h; exact h) (Or.inl ⟨by rfl, ?_⟩) (by assumption) ?_
                    rotate_left
                    · intro w' hSw; (try dsimp only at hSw); go_simp; (try with_reducible rfl)
                    try simp only [Act.put, List.setIfInBounds_toArray, List.set_cons_zero, List.set_cons_succ]
                    refine wpAnyH_take (i := 8) (v := ?_) (by simp only [List.getElem?_toArray, List.getElem?_cons_succ, List.getElem?_cons_zero]; rfl) (by kernel_rfl) (by kernel_rfl) (by kernel_rfl) (by intro _ _ _ h; exact h) (Or.inl ⟨by rfl, ?_⟩) (by assumption) ?_
                    rotate_left
                    · intro w' hSw; (try dsimp only at hSw); go_simp; (try with_reducible rfl)
                    try simp only [Act.put, List.setIfInBounds_toArray, List.set_cons_zero, List.set_cons_succ]
                    refine wpAnyH_take (i := 9) (v := ?_) (by simp only [List.getElem?_toArray, List.getElem?_cons_succ, List.getElem?_cons_zero]; rfl) (by kernel_rfl) (by kernel_rfl) (by kernel_rfl) (by intro _ _ _ h; exact h) (Or.inl ⟨by rfl, ?_⟩) (by assumption) ?_
                    rotate_left
                    · intro w' hSw; (try dsimp only at hSw); go_simp; (try with_reducible rfl)
                    try simp only [Act.put, List.setIfInBounds_toArray, List.set_cons_zero, List.set_cons_succ]
                    refine wpAnyH_ready (rs := [10]) (by kernel_rfl) (by simp) ?_
                    refine AllReadyH.cons (by simp only [List.getElem?_toArray, List.getElem?_cons_succ, List.getElem?_cons_zero]; rfl) (fun K hK => ?_) AllReadyH.nil
                    go_simp
                    go_at_call 87
                    refine (hcall.out _ hHeld).mono ?_
                    rintro e w2 ⟨rfl, hk⟩
                    clear hHeld
                    go_wp2_with fail
                    refine hK.out _ _ hk (fun hHeld => ?_)
                    clear hK K hk
                    try simp only [Act.put, List.setIfInBounds_toArray, List.set_cons_zero, List.set_cons_succ]
                    refine wpAnyH_take (i := 11) (v := ?_) (by simp only [List.getElem?_toArray, List.getElem?_cons_succ, List.getElem?_cons_zero]; rfl) (by kernel_rfl) (by kernel_rfl) (by kernel_rfl) (by intro _ _ _ h; exact h) (Or.inl ⟨by rfl, ?_⟩) (by assumption) ?_
                    rotate_left
                    · intro w' hSw; (try dsimp only at hSw); go_simp; (try with_reducible rfl)
                    try simp only [Act.put, List.setIfInBounds_toArray, List.set_cons_zero, List.set_cons_succ]
                    refine wpAnyH_take (i := 12) (v := ?_) (by simp only [List.getElem?_toArray, List.getElem?_cons_succ, List.getElem?_cons_zero]; rfl) (by kernel_rfl) (by kernel_rfl) (by kernel_rfl) (by intro _ _ _ h; exact h) (Or.inl ⟨by rfl, ?_⟩) (by assumption) ?_
                    rotate_left
                    · intro w' hSw; (try dsimp only at hSw); go_simp; (try with_reducible rfl)
                    try simp only [Act.put, List.setIfInBounds_toArray, List.set_cons_zero, List.set_cons_succ]
                    refine wpAnyH_take (i := 13) (v := ?_) (by simp only [List.getElem?_toArray, List.getElem?_cons_succ, List.getElem?_cons_zero]; rfl) (by kernel_rfl) (by kernel_rfl) (by kernel_rfl) (by intro _ _ _ h; exact h) (Or.inl ⟨by rfl, ?_⟩) (by assumption) ?_
                    rotate_left
                    · intro w' hSw; (try dsimp only at hSw); go_simp; (try with_reducible rfl)
                    try simp only [Act.put, List.setIfInBounds_toArray, List.set_cons_zero, List.set_cons_succ]
                    refine wpAnyH_take (i := 14) (v := ?_) (by simp only [List.getElem?_toArray, List.getElem?_cons_succ, List.getElem?_cons_zero]; rfl) (by kernel_rfl) (by kernel_rfl) (by kernel_rfl) (by intro _ _ _ h; exact h) (Or.inl ⟨by rfl, ?_⟩) (by assumption) ?_
                    rotate_left
                    · intro w' hSw; (try dsimp only at hSw); go_simp; (try with_reducible rfl)
                    try simp only [Act.put, List.setIfInBounds_toArray, List.set_cons_zero, List.set_cons_succ]
                    refine wpAnyH_take (i := 15) (v := ?_) (by simp only [List.getElem?_toArray, List.getElem?_cons_succ, List.getElem?_cons_zero]; rfl) (by kernel_rfl) (by kernel_rfl) (by kernel_rfl) (by intro _ _ _ h; exact h) (Or.inl ⟨by rfl, ?_⟩) (by assumption) ?_
                    rotate_left
                    · intro w' hSw; (try dsimp only at hSw); go_simp; (try with_reducible rfl)
                    try simp only [Act.put, List.setIfInBounds_toArray, List.set_cons_zero, List.set_cons_succ]
                    refine wpAnyH_take (i := 16) (v := ?_) (by simp only [List.getElem?_toArray, List.getElem?_cons_succ, List.getElem?_cons_zero]; rfl) (by kernel_rfl) (by kernel_rfl) (by kernel_rfl) (by intro _ _ _ h; exact h) (Or.inl ⟨by rfl, ?_⟩) (by assumption) ?_
                    rotate_left
                    · intro w' hSw; (try dsimp only at hSw); go_simp; (try with_reducible rfl)
                    try simp only [Act.put, List.setIfInBounds_toArray, List.set_cons_zero, List.set_cons_succ]
                    refine wpAnyH_take (i := 17) (v := ?_) (by simp only [List.getElem?_toArray, List.getElem?_cons_succ, List.getElem?_cons_zero]; rfl) (by kernel_rfl) (by kernel_rfl) (by kernel_rfl) (by intro _ _ _ h; exact h) (Or.inl ⟨by rfl, ?_⟩) (by assumption) ?_
                    rotate_left
                    · intro w' hSw; (try dsimp only at hSw); go_simp; (try with_reducible rfl)
                    try simp only [Act.put, List.setIfInBounds_toArray, List.set_cons_zero, List.set_cons_succ]
                    refine wpAnyH_take (i := 18) (v := ?_) (by simp only [List.getElem?_toArray, List.getElem?_cons_succ, List.getElem?_cons_zero]; rfl) (by kernel_rfl) (by kernel_rfl) (by kernel_rfl) (by intro _ _ _ h; exact h) (Or.inl ⟨by rfl, ?_⟩) (by assumption) ?_
                    rotate_left
                    · intro w' hSw; (try dsimp only at hSw); go_simp; (try with_reducible rfl)
                    try simp only [Act.put, List.setIfInBounds_toArray, List.set_cons_zero, List.set_cons_succ]
                    refine wpAnyH_take (i := 19) (v := ?_) (by simp only [List.getElem?_toArray, List.getElem?_cons_succ, List.getElem?_cons_zero]; rfl) (by kernel_rfl) (by kernel_rfl) (by kernel_rfl) (by intro _ _ _ h; exact h) (Or.inl ⟨by rfl, ?_⟩) (by assumption) ?_
                    rotate_left
                    · intro w' hSw; (try dsimp only at hSw); go_simp; (try with_reducible rfl)
                    try simp only [Act.put, List.setIfInBounds_toArray, List.set_cons_zero, List.set_cons_succ]
                    refine wpAnyH_take (i := 20) (v := ?_) (by simp only [List.getElem?_toArray, List.getElem?_cons_succ, List.getElem?_cons_zero]; rfl) (by kernel_rfl) (by kernel_rfl) (by kernel_rfl) (by intro _ _ _ h; exact h) (Or.inl ⟨by rfl, ?_⟩) (by assumption) ?_
                    rotate_left
                    · intro w' hSw; (try dsimp only at hSw); go_simp; (try with_reducible rfl)
                    try simp only [Act.put, List.setIfInBounds_toArray, List.set_cons_zero, List.set_cons_succ]
                    refine wpAnyH_take (i := 21) (v := undef) (by simp only [List.getElem?_toArray, List.getElem?_cons_succ, List.getElem?_cons_zero]; rfl) (by kernel_rfl) (by kernel_rfl) (by kernel_rfl) (by intro _ _ _ h; exact h) (Or.inr ⟨by rfl, rfl⟩) (by assumption) ?_
                    try simp only [Act.put, List.setIfInBounds_toArray, List.set_cons_zero, List.set_cons_succ]
                    refine wpAnyH_take (i := 22) (v := undef) (by simp only [List.getElem?_toArray, List.getElem?_cons_succ, List.getElem?_cons_zero]; rfl) (by kernel_rfl) (by kernel_rfl) (by kernel_rfl) (by intro _ _ _ h; exact h) (Or.inr ⟨by rfl, rfl⟩) (by assumption) ?_
                    try simp only [Act.put, List.setIfInBounds_toArray, List.set_cons_zero, List.set_cons_succ]
                    refine wpAnyH_take (i := 23) (v := undef) (by simp only [List.getElem?_toArray, List.getElem?_cons_succ, List.getElem?_cons_zero]; rfl) (by kernel_rfl) (by kernel_rfl) (by kernel_rfl) (by intro _ _ _ h; exact h) (Or.inr ⟨by rfl, rfl⟩) (by assumption) ?_
                    try simp only [Act.put, List.setIfInBounds_toArray, List.set_cons_zero, List.set_cons_succ]
                    refine wpAnyH_take (i := 24) (v := undef) (by simp only [List.getElem?_toArray, List.getElem?_cons_succ, List.getElem?_cons_zero]; rfl) (by kernel_rfl) (by kernel_rfl) (by kernel_rfl) (by intro _ _ _ h; exact h) (Or.inr ⟨by rfl, rfl⟩) (by assumption) ?_
                    try simp only [Act.put, List.setIfInBounds_toArray, List.set_cons_zero, List.set_cons_succ]
                    refine wpAnyH_take (i := 25) (v := undef) (by simp only [List.getElem?_toArray, List.getElem?_cons_succ, List.getElem?_cons_zero]; rfl) (by kernel_rfl) (by kernel_rfl) (by kernel_rfl) (by intro _ _ _ h; exact h) (Or.inr ⟨by rfl, rfl⟩) (by assumption) ?_
                    try simp only [Act.put, List.setIfInBounds_toArray, List.set_cons_zero, List.set_cons_succ]
                    refine wpAnyH_take (i := 26) (v := undef) (by simp only [List.getElem?_toArray, List.getElem?_cons_succ, List.getElem?_cons_zero]; rfl) (by kernel_rfl) (by kernel_rfl) (by kernel_rfl) (by intro _ _ _ h; exact h) (Or.inr ⟨by rfl, rfl⟩) (by assumption) ?_
                    try simp only [Act.put, List.setIfInBounds_toArray, List.set_cons_zero, List.set_cons_succ]
                    refine wpAnyH_take (i := 27) (v := undef) (by simp only [List.getElem?_toArray, List.getElem?_cons_succ, List.getElem?_cons_zero]; rfl) (by kernel_rfl) (by kernel_rfl) (by kernel_rfl) (by intro _ _ _ h; exact h) (Or.inr ⟨by rfl, rfl⟩) (by assumption) ?_
                    try simp only [Act.put, List.setIfInBounds_toArray, List.set_cons_zero, List.set_cons_succ]
                    refine wpAnyH_take (i := 28) (v := undef) (by simp only [List.getElem?_toArray, List.getElem?_cons_succ, List.getElem?_cons_zero]; rfl) (by kernel_rfl) (by kernel_rfl) (by kernel_rfl) (by intro _ _ _ h; exact h) (Or.inr ⟨by rfl, rfl⟩) (by assumption) ?_
                    try simp only [Act.put, List.setIfInBounds_toArray, List.set_cons_zero, List.set_cons_succ]
                    refine wpAnyH_take (i := 29) (v := undef) (by simp only [List.getElem?_toArray, List.getElem?_cons_succ, List.getElem?_cons_zero]; rfl) (by kernel_rfl) (by kernel_rfl) (by kernel_rfl) (by intro _ _ _ h; exact h) (Or.inr ⟨by rfl, rfl⟩) (by assumption) ?_
                    try simp only [Act.put, List.setIfInBounds_toArray, List.set_cons_zero, List.set_cons_succ]
                    refine wpAnyH_take (i := 30) (v := undef) (by simp only [List.getElem?_toArray, List.getElem?_cons_succ, List.getElem?_cons_zero]; rfl) (by kernel_rfl) (by kernel_rfl) (by kernel_rfl) (by intro _ _ _ h; exact h) (Or.inr ⟨by rfl, rfl⟩) (by assumption) ?_
                    try simp only [Act.put, List.setIfInBounds_toArray, List.set_cons_zero, List.set_cons_succ]
                    refine wpAnyH_take (i := 31) (v := undef) (by simp only [List.getElem?_toArray, List.getElem?_cons_succ, List.getElem?_cons_zero]; rfl) (by kernel_rfl) (by kernel_rfl) (by kernel_rfl) (by intro _ _ _ h; exact h) (Or.inr ⟨by rfl, rfl⟩) (by assumption) ?_
                    try simp only [Act.put, List.setIfInBounds_toArray, List.set_cons_zero, List.set_cons_succ]
                    refine wpAnyH_take (i := 32) (v := undef) (by simp only [List.getElem?_toArray, List.getElem?_cons_succ, List.getElem?_cons_zero]; rfl) (by kernel_rfl) (by kernel_rfl) (by kernel_rfl) (by intro _ _ _ h; exact h) (Or.inr ⟨by rfl, rfl⟩) (by assumption) ?_
                    try simp only [Act.put, List.setIfInBounds_toArray, List.set_cons_zero, List.set_cons_succ]
                    refine wpAnyH_take (i := 33) (v := ?_) (by simp only [List.getElem?_toArray, List.getElem?_cons_succ, List.getElem?_cons_zero]; rfl) (by kernel_rfl) (by kernel_rfl) (by kernel_rfl) (by intro _ _ _ h; exact h) (Or.inl ⟨by rfl, ?_⟩) (by assumption) ?_
                    rotate_left
                    · intro w' hSw; (try dsimp only at hSw); go_simp; (try with_reducible rfl)
                    try simp only [Act.put, List.setIfInBounds_toArray, List.set_cons_zero, List.set_cons_succ]
                    refine wpAnyH_take (i := 34) (v := ?_) (by simp only [List.getElem?_toArray, List.getElem?_cons_succ, List.getElem?_cons_zero]; rfl) (by kernel_rfl) (by kernel_rfl) (by kernel_rfl) (by intro _ _ _ h; exact h) (Or.inl ⟨by rfl, ?_⟩) (by assumption) ?_
                    rotate_left
                    · intro w' hSw; (try dsimp only at hSw); go_simp; (try with_reducible rfl)
                    try simp only [Act.put, List.setIfInBounds_toArray, List.set_cons_zero, List.set_cons_succ]
                    refine wpAnyH_done (by kernel_rfl) ?_ _
                    go_wp2_with fail
                    go_roundw
                    case rel => exact ⟨m + 1, by omega, by go_num, hHeld.1.1, hHeld.1.2⟩
                    case measure => simp [intOf]; omega
                · go_wp2_with fail
                  go_roundw
                  case rel => exact ⟨k + 1, by omega, by go_num, hP.out, hb0.out⟩
                  case measure => simp [intOf]; omega
            · go_wp2_with fail
              go_ret
              exact ⟨rfl, hb0.out⟩
end Go.Proofs.Ytdhicfolchpmhaa

