/- Walks: LittleNumbers. -/
import Derived.OwnWalk
import Derived.Test.YtdhicfolchpmhaaNumA
import Derived.Test.YtdhicfolchpmhaaLawS
namespace Go.Proofs.Ytdhicfolchpmhaa
open Go.RowKit
set_option linter.unusedVariables false
set_option linter.unusedSimpArgs false

theorem cut_cons (W : Nat) (x : Int) (l : List Int) : cutL W (x :: l) = x % 256 ^ W :: cutL W l := rfl
theorem ints_tail {k : IntKind} {w : World} {g off : Nat} {x : Int} {l : List Int} (h : Ints k w (some ⟨g, off, none⟩) (x :: l)) : Ints k w (some ⟨g, off + 1, none⟩) l := by
  refine ⟨fun y hy => h.wf y (List.mem_cons_of_mem _ hy), .inr ⟨_, _, rfl, fun i hi => ?_⟩⟩
  rcases h.cell with h0 | ⟨b, o, ho, hc⟩
  · simp at h0
  · simp only [Option.some.injEq, Addr.mk.injEq, and_true] at ho
    obtain ⟨rfl, rfl⟩ := ho
    have := hc (i + 1) (by simpa using hi)
    rw [show off + 1 + i = off + (i + 1) by omega, this]
    simp [List.getD]
theorem Held.want_on {w w1 : World} {B : Nat} {vg vw vg' : Value} {T : List Trip} {news : List Value} (h : Held w B vg vw T) (hA : Appended w w1 B 23 1 vg vg' (T.flatMap Trip.got).length 2 ((T.flatMap Trip.got).map (·.v)) news) : w1.ownsRow B 23 1 vw (T.flatMap Trip.want).length ((T.flatMap Trip.want).map (·.v)) := by
  have h1 := h.sep.own 1 (by simp)
  have h2 := h.sep.apart 1 0 (by simp) (by simp) (by decide)
  simp only [List.getElem_cons_zero, List.getElem_cons_succ, RowS.apart] at h1 h2
  exact h1.kept hA.grown h2
theorem Held.got_own {w : World} {B : Nat} {vg vw : Value} {T : List Trip} (h : Held w B vg vw T) : w.ownsRow B 23 1 vg (T.flatMap Trip.got).length ((T.flatMap Trip.got).map (·.v)) := by
  have h1 := h.sep.own 0 (by simp)
  simpa using h1
/-- a region that draws: what stands behind all its orders, once -/
theorem once {G : Prop} (F : Value → World → Prop) {X : Value → World → Prop} (h1 : (∀ v w, F v w → X v w) → G) (h2 : ∀ v w, F v w → X v w) : G := h1 h2
theorem pow_bd {W : Nat} (h : Wid W) : (256 : Int) ^ W ≤ 18446744073709551616 ∧ (0 : Int) < 256 ^ W := by
  rcases h with rfl | rfl | rfl | rfl <;> decide

set_option maxHeartbeats 4000000 in
set_option maxRecDepth 100000 in
theorem numbers_walk (w : World) (b off len cap : Nat) (rows : List NumRow) (hlen : len = rows.length) (hbig : len ≤ 1048576) (hr : ∀ i, (h : i < rows.length) → (rows[i]).Ok w b (off + i * 6)) :
    Calls Try.prog 10 #[.slice (some ⟨b, off, none⟩) len cap] w fun e w' => e = .returned (.bool true) ∧ Below w.heap.size w w' := by
  subst hlen
  have hR := hid hr
  clear hr
  go_enter Try.func10, Try.ntmps10
  go_wp2_with fail
  refine (lives_any _).mono ?_
  rintro e w1 ⟨rfl, hb1⟩
  have hB1 := hid hb1
  clear hb1
  go_wp2_with fail
  go_loopw [3, 4, 5] (fun g v i wr => ∃ (T : List Trip) (k : Nat) (vg vw : Value), vg = g ∧ vw = v ∧ i = .int .i64 k ∧ k ≤ rows.length ∧ T.length ≤ k ∧ (T = [] → vg = .slice none 0 0) ∧ Held wr w.heap.size vg vw T ∧ Below w.heap.size w wr) (fun _ _ i _ => rows.length - (intOf i).toNat)
  case atStart => exact ⟨[], 0, _, _, rfl, rfl, rfl, Nat.zero_le _, Nat.le_refl _, fun _ => rfl, Held.start w1 _, hB1.out⟩
  case round =>
    clear hB1
    obtain ⟨T, k, vg, vw, rfl, rfl, rfl, hk, hTk, hT0, hh, hb⟩ := hrel
    have hH := hid hh
    have hB := hid hb
    have hT := hid hT0
    have hTl := hid hTk
    clear hh hb hT0 hTk
    by_cases hlt : k < rows.length
    · have hrow := hid ((hR.out k hlt).mono hB.out)
      have hBy0 := hid ((hR.out k hlt).hb)
      generalize hrk : rows[k] = r at *
      clear hrk
      obtain ⟨kd, wd, ao, cp, nums, bo, bcap, bytes, at_, val⟩ := r
      have g0 : wr.cell? ⟨b, off + k * 6, none⟩ = some (.int .i64 kd) := hrow.out.c0
      have g1 : wr.cell? ⟨b, off + k * 6 + 1, none⟩ = some (.int .i64 wd) := hrow.out.c1
      have g2 : wr.cell? ⟨b, off + k * 6 + 2, none⟩ = some (.slice ao nums.length cp) := hrow.out.c2
      have g3 : wr.cell? ⟨b, off + k * 6 + 3, none⟩ = some (.slice bo bytes.length bcap) := hrow.out.c3
      have g4 : wr.cell? ⟨b, off + k * 6 + 4, none⟩ = some (.int .i64 at_) := hrow.out.c4
      have g5 : wr.cell? ⟨b, off + k * 6 + 5, none⟩ = some (.int .u64 val) := hrow.out.c5
      have hln : nums.length ≤ 1048576 := hrow.out.ln
      have hlb : bytes.length ≤ 1048576 := hrow.out.lb
      have hat : Hid (-9223372036854775808 ≤ at_ ∧ at_ ≤ 9223372036854775807) := hrow.out.wa
      have hvb : Hid (0 ≤ val ∧ val ≤ 18446744073709551615) := hrow.out.wv
      have hNI : Hid (Ints .u64 wr ao nums) := hrow.out.hn
      have hBI : Hid (Ints .u8 wr bo bytes) := hrow.out.hb
      have hwd : Hid (-9223372036854775808 ≤ wd ∧ wd ≤ 9223372036854775807) := hrow.out.ww
      have hnn : Hid (ao = none → cp = 0) := hrow.out.hnn
      have hBy : Hid (Ints .u8 w bo bytes) := hBy0.out
      clear hrow hBy0
      go_wp2_with fail
      refine (width_any _ _ hwd.out).mono ?_
      rintro e w' ⟨rfl, rfl⟩
      have hW := hid (Wid.of wd)
      generalize wid wd = W at *
      go_wp2_with fail
      refine (lent_any _ _ bcap bytes _ rfl (by omega) (hBI.out.mono ((Below.refl _ _).alloc (Nat.le_refl _) _))).mono ?_
      rintro e w2 ⟨v2, rfl, ho2, hb2⟩
      have q0 : w2.cell? ⟨wr.heap.size, 0, none⟩ = some (.int .i64 kd) := (hb2.cell (by simp)).trans (by simp)
      have q2 : w2.cell? ⟨wr.heap.size, 2, none⟩ = some (.slice ao nums.length cp) := (hb2.cell (by simp)).trans (by simp)
      have q3 : w2.cell? ⟨wr.heap.size, 3, none⟩ = some (.slice bo bytes.length bcap) := (hb2.cell (by simp)).trans (by simp)
      have q4 : w2.cell? ⟨wr.heap.size, 4, none⟩ = some (.int .i64 at_) := (hb2.cell (by simp)).trans (by simp)
      have q5 : w2.cell? ⟨wr.heap.size, 5, none⟩ = some (.int .u64 val) := (hb2.cell (by simp)).trans (by simp)
      have hb2' : Hid (Below wr.heap.size wr w2) := ((Below.refl _ _).alloc (Nat.le_refl _) _).trans (hb2.mono (by simp))
      rw [World.size_alloc] at ho2
      obtain ⟨g, c8, hv2, hg1, hg2, hnc, hcm⟩ := own_shape ho2 (by omega)
      subst hv2
      have hS2 : Hid (Op w wr w2 ⟨kd, wd, ao, cp, nums, bo, bcap, bytes, at_, val⟩ (.slice (some ⟨g, 0, none⟩) (bytes.length + 64) c8) vg vw T) := Op.start (wl := w2) hH.out hB.out hb2'.out q0 q3 q4 hBy.out ho2
      have hN2 := hid (hNI.out.mono hb2'.out)
      have hg2' := hid hg2
      unfold maxLen at hcm
      clear ho2 hb2 g0 g1 g2 g3 g4 g5 hNI hBI hwd q4
      clear hg1 hg2
      have q2' : (w2.alloc (.cells #[.int .u64 val] 46)).cell? ⟨wr.heap.size, 2, none⟩ = some (.slice ao nums.length cp) := (World.grownBy_alloc w2 _ none).cell q2 (by simp)
      go_wp2_with (at_builtin; go_must (refine wpList_append_ints rfl _ _ 36 rfl w2.heap.size 46 .u64 (.int .u64 0) 8 Try.underlying36 Try.info46 rfl _ 1 [.int .u64 val] (World.ownsRow_lit (e := 46) (size := 1) w2 #[.int .u64 val] 1 (Nat.le_refl _) (by decide) rfl) ao cp nums (hN2.out.mono ((Below.refl _ _).alloc (Nat.le_refl _) _)) hnn.out (by unfold maxLen; omega) (by omega) (by simp) rfl rfl ?_); intro v3 w3 ho3 hb3)
      have hb3' : Hid (Below w2.heap.size w2 w3) := ((Below.refl _ _).alloc (Nat.le_refl _) _).trans hb3
      have hS3 := hid (hS2.out.below hb3'.out)
      have hN3 := hid (hN2.out.mono hb3'.out)
      obtain ⟨a3, c3, hv3, hI3, hn3, hc3, -⟩ := ints_of_own (l := val :: nums) ho3 (fun x hx => by
        rcases List.mem_cons.1 hx with rfl | hx
        · exact wf_u64.2 hvb.out
        · exact hN2.out.wf x hx)
      subst hv3
      have hI3' := hid hI3
      clear ho3 hb3 hI3 q0 q2 q2' q3 q5 hS2 hN2 hn3 hc3
      refine (cutU hW.out _ _ c3 (val :: nums) _ rfl (by simp; omega) hI3'.out).mono ?_
      rintro e w4 ⟨v4, rfl, ho4, hb4⟩
      have hS4 := hid (hS3.out.below hb4)
      have hsz4 := hid (show w2.heap.size ≤ w4.heap.size from Nat.le_trans hb3'.out.size hb4.size)
      rw [cut_cons] at ho4
      have hpw := pow_bd hW.out
      have hx0 : Hid (0 ≤ val % 256 ^ W ∧ val % 256 ^ W < 256 ^ W) := ⟨Int.emod_nonneg _ (by omega), Int.emod_lt_of_pos _ hpw.2⟩
      have hxb := hid (cutL_bd W nums)
      have hxl := hid (cutL_len W nums)
      obtain ⟨x0, hx0'⟩ : ∃ x0, x0 = val % 256 ^ W := ⟨_, rfl⟩
      obtain ⟨xr, hxr'⟩ : ∃ xr, xr = cutL W nums := ⟨_, rfl⟩
      rw [← hx0', ← hxr'] at ho4
      rw [← hx0'] at hx0
      rw [← hxr'] at hxb hxl
      have hxm : Hid (x0 % 256 ^ W = x0) := Int.emod_eq_of_lt hx0.out.1 hx0.out.2
      have hxu : Hid (0 ≤ x0 ∧ x0 ≤ 18446744073709551615) := by have := hx0.out; unfold Hid; omega
      obtain ⟨a4, c4, hv4, hI4, hn4, hc4, hcm4⟩ := ints_of_own (l := x0 :: xr) ho4 (fun x hx => by
        rcases List.mem_cons.1 hx with rfl | hx
        · exact wf_u64.2 hxu.out
        · exact wf_u64.2 (by have := hxb.out x hx; omega))
      obtain ⟨gx, c5, hv5, -⟩ := own_shape ho4 (by simp)
      rw [hv4] at hv5
      simp only [Value.slice.injEq] at hv5
      obtain ⟨rfl, hv6, rfl⟩ := hv5
      subst hv4
      have hI4' := hid hI4
      have qx0 : Hid (w4.cell? ⟨gx, 0, none⟩ = some (.int .u64 x0)) := by
        rcases hI4.cell with h | ⟨b1, o1, h1, h2⟩
        · simp at h
        · simp only [Option.some.injEq, Addr.mk.injEq, and_true] at h1
          obtain ⟨rfl, rfl⟩ := h1
          have h3 := h2 0 (by simp)
          simpa [Hid] using h3
      have hxr : Hid (Ints .u64 w4 (some ⟨gx, 1, none⟩) xr) := ints_tail hI4
      have hlx : nums.length = xr.length := hxl.out.symm
      have hxx : xr.length ≤ 1048576 := by omega
      have hnx := hid hlx
      clear hlx hv6 hn4 ho4 hb4 hI4 hxl hx0' hxr' hpw hS3 hN3 hI3' hnn hcm4 hln
      have hc4x : xr.length + 1 ≤ c4 := by simpa using hc4
      clear hc4
      have q0 : w4.cell? ⟨wr.heap.size, 0, none⟩ = some (.int .i64 kd) := hS4.out.c0
      have q00 := hid q0
      by_cases h0 : kd = 0
      · subst h0
        by_cases hc41 : c4 = 1
        · subst hc41
          have hxr : Hid (Ints .u64 w4 (some ⟨gx, 0, none⟩) xr) := ⟨hxr.out.wf, .inl (by omega)⟩
          obtain rfl : xr = [] := List.eq_nil_of_length_eq_zero (by omega)
          go_wp2_with fail
          have h34 := refput W hW.out.le.1 hW.out.le.2 (some ⟨gx, 0, none⟩) 0 (0) [] w4 rfl (by omega) hxr.out
          refine h34.mono ?_
          clear h34
          rintro e w5 ⟨v5, rfl, ho5, hb5⟩
          rw [Nat.zero_mul] at ho5
          have hP5 := hid (hxr.out.mono hb5)
          have hS5 := hid (hS4.out.below hb5)
          have hO5 := hid ho5
          have hs5 := hid hb5.size
          clear ho5 hb5 hS4
          go_wp2_with fail
          have h24 := lputU hW.out (some ⟨gx, 0, none⟩) 0 (0) [] w5 rfl (by omega) hP5.out hxb.out
          refine h24.mono ?_
          clear h24
          rintro e w6 ⟨v6, rfl, ho6, hb6⟩
          rw [Nat.zero_mul] at ho6
          have hP6 := hid (hP5.out.mono hb6)
          have hS6 := hid (hS5.out.below hb6)
          have hO56 := hid (own_mono hO5.out hb6 (Nat.le_refl _))
          have a13 := hid (own_apart hO5.out ho6 (Nat.le_refl _))
          have hO6 := hid ho6
          have hs6 := hid hb6.size
          clear ho6 hb6 hS5 hP5
          go_wp2_with fail
          have h24 := lputU hW.out (some ⟨gx, 0, none⟩) 0 (0) [] w6 rfl (by omega) hP6.out hxb.out
          refine h24.mono ?_
          clear h24
          rintro e w7 ⟨v7, rfl, ho7, hb7⟩
          rw [Nat.zero_mul] at ho7
          have hS7 := hid (hS6.out.below hb7)
          have hO57 := hid (own_mono hO56.out hb7 (Nat.le_refl _))
          have hO67 := hid (own_mono hO6.out hb7 (Nat.le_refl _))
          have a12 := hid (own_apart hO6.out ho7 (Nat.le_refl _))
          have a23 := hid (own_apart hO5.out ho7 hs6.out)
          have hO7 := hid ho7
          have hs7 := hid hb7.size
          have hpl := hid (show 0 = (putL W []).length from by rw [putL_len]; first | exact Nat.mul_comm _ _ | rfl)
          have hpb := hid (putL_byt W [])
          have hpn : Hid (0 ≤ 100000000) := by
            have h1 := hW.out.le.2
            have h2 := Nat.mul_le_mul_left (0) h1
            unfold Hid
            omega
          clear ho7 hb7 hS6 hP6
          obtain ⟨P, hP⟩ : ∃ P, P = putL W [] := ⟨_, rfl⟩
          rw [← hP] at hO57 hO67 hO7 hpl hpb
          clear hP
          obtain ⟨ao5, cc5, hv5, -⟩ := own_any_shape hO57.out
          obtain ⟨ao6, cc6, hv6, -⟩ := own_any_shape hO67.out
          obtain ⟨ao7, cc7, hv7, -⟩ := own_any_shape hO7.out
          subst hv5 hv6 hv7
          have hfm := hid (show ∀ q, (Value.slice (some ⟨g, 0, none⟩) (bytes.length + 64) c8).ownBlock = some q → q < w4.heap.size from fun q hq => by
              simp only [Value.ownBlock, Option.some.injEq] at hq; have := hg2'.out; have := hsz4.out; omega)
          go_wp2_with (first | (at_builtin; refine wpList_append_str rfl _ _ 63 rfl w.heap.size 23 23 (.slice none 0 0) 1 24 2 Try.underlying63 (by kernel_rfl) rfl (by decide) _ (T.flatMap Trip.got).length _ [_, _] (0, 0) hS7.out.held.got_own rfl (by simp [Value.oneCell']) (by rw [got_len]; have := hTl.out; unfold maxLen; omega) (by rw [got_len]; have := hTl.out; omega) hS7.out.bel.size rfl rfl ?_; intro vg' wg hA1; have hA1' := hid hA1; have hsg := hid (Nat.le_trans hS7.out.bel.size hA1.grown.size); have hWo := hid (hS7.out.held.want_on hA1); clear hA1) | (at_builtin; go_must (refine wpList_append_str rfl _ _ 63 rfl w.heap.size 23 23 (.slice none 0 0) 1 24 2 Try.underlying63 (by kernel_rfl) rfl (by decide) _ (T.flatMap Trip.want).length _ [_, _] (0, 0) hWo.out rfl (by simp [Value.oneCell']) (by rw [want_len]; have := hTl.out; unfold maxLen; omega) (by rw [want_len]; have := hTl.out; omega) hsg.out rfl rfl ?_); intro vw' ww hA2; have hS9 : Hid (Op w wr ww ⟨0, wd, ao, cp, nums, bo, bcap, bytes, at_, val⟩ (.slice (some ⟨g, 0, none⟩) (bytes.length + 64) c8) vg' vw' (T ++ ([⟨⟨.slice ao6 (0) cc6, 5, 1, 0, P.map (Value.int .u8)⟩, ⟨.slice ao7 (0) cc7, 5, 1, 0, P.map (Value.int .u8)⟩, ⟨.slice ao5 (0) cc5, 5, 1, 0, P.map (Value.int .u8)⟩, P⟩] : List Trip))) := (hS7.out.two hH.out (wm := w4) (Nat.le_of_lt (World.block_lt_of_cell? w4 _ q00.out)) (hfm.out) (Nat.le_trans hs5.out (Nat.le_trans hs6.out hs7.out)) ⟨⟨.slice ao6 (0) cc6, 5, 1, 0, P.map (Value.int .u8)⟩, ⟨.slice ao7 (0) cc7, 5, 1, 0, P.map (Value.int .u8)⟩, ⟨.slice ao5 (0) cc5, 5, 1, 0, P.map (Value.int .u8)⟩, P⟩ ⟨⟨rfl, rfl, hpl.out, hpn.out, rfl⟩, ⟨rfl, rfl, hpl.out, hpn.out, rfl⟩, ⟨rfl, rfl, hpl.out, hpn.out, rfl⟩, hpb.out⟩ (own_base hO67.out hs5.out) (own_base hO7.out (Nat.le_trans hs5.out hs6.out)) hO57.out a12.out (RowS.apart_symm (a := ⟨_, 5, 1, 0, []⟩) (b := ⟨_, 5, 1, 0, []⟩) a13.out) (RowS.apart_symm (a := ⟨_, 5, 1, 0, []⟩) (b := ⟨_, 5, 1, 0, []⟩) a23.out) hA1'.out hA2); have q3 : ww.cell? ⟨wr.heap.size, 3, none⟩ = some (.slice bo bytes.length bcap) := hS9.out.c3))
          have hTT : Hid ((T ++ ([⟨⟨.slice ao6 (0) cc6, 5, 1, 0, P.map (Value.int .u8)⟩, ⟨.slice ao7 (0) cc7, 5, 1, 0, P.map (Value.int .u8)⟩, ⟨.slice ao5 (0) cc5, 5, 1, 0, P.map (Value.int .u8)⟩, P⟩] : List Trip) : List Trip).length ≤ k + 1) := by have := hTl.out; show (T ++ ([⟨⟨.slice ao6 (0) cc6, 5, 1, 0, P.map (Value.int .u8)⟩, ⟨.slice ao7 (0) cc7, 5, 1, 0, P.map (Value.int .u8)⟩, ⟨.slice ao5 (0) cc5, 5, 1, 0, P.map (Value.int .u8)⟩, P⟩] : List Trip)).length ≤ k + 1; rw [List.length_append, List.length_singleton]; omega
          have hT00 : Hid (T ++ ([⟨⟨.slice ao6 (0) cc6, 5, 1, 0, P.map (Value.int .u8)⟩, ⟨.slice ao7 (0) cc7, 5, 1, 0, P.map (Value.int .u8)⟩, ⟨.slice ao5 (0) cc5, 5, 1, 0, P.map (Value.int .u8)⟩, P⟩] : List Trip) = [] → vg' = .slice none 0 0) := fun h => absurd h (by simp)
          clear hA1' hA2 hWo hsg hS7 a12 a13 a23 hO5 hO56 hO57 hO6 hO67 hO7 hpl hpb hpn hs5 hs6 hs7
          clear hI4' hxr hx0 hxb hxm hxu hc4x hvb hT hTl
          have hL1 : Hid (Ints .u8 ww (some ⟨g, 0, none⟩) (lentL bytes)) := hS9.out.lies.1
          have hL2 : Hid (Ints .u8 ww bo bytes) := hS9.out.lies.2.2
          have h20 := kept_any (some ⟨g, 0, none⟩) (bytes.length + 64) c8 bo bytes.length bcap bytes ww (by rw [lentL_len]) rfl (by omega) hL1.out hL2.out
          refine h20.mono ?_
          clear h20
          rintro e wk ⟨rfl, qk, rfl⟩
          clear q3 hL1 hL2
          go_wp2_with fail
          have hOl : Hid ((ww.drewN qk).ownsRow (wr.heap.size + 1) 5 1 (.slice (some ⟨g, 0, none⟩) bytes.length c8) bytes.length (((lentL bytes).map (Value.int .u8)).take bytes.length)) := own_take (n := bytes.length + 64) (hS9.out.drewN qk).full (by omega)
          have h21 := over_any g bytes.length c8 _ _ _ hOl.out (by omega)
          refine h21.mono ?_
          clear h21
          rintro e wo ⟨rfl, ho5, hgr5⟩
          have hM0 := hid (show Byt ((List.range bytes.length).map (fun i : Nat => markB (-1) i)) from fun x hx => by
            obtain ⟨i, _, rfl⟩ := List.mem_map.1 hx
            exact markB_bd _ _)
          have hlm0 := hid (show ((List.range bytes.length).map (fun i : Nat => markB (-1) i)).length = bytes.length from by simp)
          obtain ⟨M, hM⟩ : ∃ M, M = (List.range bytes.length).map (fun i : Nat => markB (-1) i) := ⟨_, rfl⟩
          rw [← hM] at ho5 hM0 hlm0
          clear hM hOl
          have hS5 := hid ((hS9.out.drewN qk).over (c := c8) hgr5 ho5)
          obtain ⟨a5, c5, hv5, hI5, -⟩ := ints_of_own ho5 (ints_of_byt hM0.out)
          simp only [Value.slice.injEq] at hv5
          obtain ⟨rfl, hv6, rfl⟩ := hv5
          have hI5' := hid hI5
          clear hv6 ho5 hgr5 hI5
          go_wp2_with fail
          refine (lent_any _ _ c8 M _ hlm0.out.symm (by rw [hlm0.out]; omega) hI5'.out).mono ?_
          rintro e w6 ⟨v6, rfl, ho6, hb6⟩
          have hS6 := hid (hS5.out.below hb6)
          have hI6 := hid (hI5'.out.mono hb6)
          obtain ⟨g6, c6, hv6, -, -, hc6, -⟩ := own_shape ho6 (by omega)
          subst hv6
          have hO6 := hid (own_take ho6 (show M.length ≤ M.length + 64 by omega))
          clear ho6 hb6 hS5 hI5'
          go_wp2_with fail
          refine (allsU hW.out _ _ c8 M w6 hlm0.out.symm (by rw [hlm0.out]; omega) (by rw [hlm0.out]; omega) hI6.out).mono ?_
          rintro e w7 ⟨rfl, hb7⟩
          have hS7 := hid (hS6.out.below hb7)
          have hI7 := hid (hI6.out.mono hb7)
          have hO7 := hid (own_mono hO6.out hb7 (Nat.le_refl _))
          have hJ7 : Hid (Ints .u8 w7 (some ⟨g6, 0, none⟩) M) := by
            have ho := hO7.out
            rw [show (List.map (Value.int .u8) (lentL M)).take M.length = M.map (Value.int .u8) from by rw [← List.map_take]; unfold lentL; rw [List.take_left]] at ho
            obtain ⟨a, c, hv, hI, -⟩ := ints_of_own ho (ints_of_byt hM0.out)
            simp only [Value.slice.injEq] at hv
            obtain ⟨rfl, -, -⟩ := hv
            exact hI
          have q4 : w7.cell? ⟨wr.heap.size, 4, none⟩ = some (.int .i64 at_) := hS7.out.c4
          clear hS6 hI6 hb7 hO6 hO7
          go_wp2_with fail
          refine (atsU hW.out _ _ c8 M at_ w7 hat.out hlm0.out.symm (by rw [hlm0.out]; omega) (by rw [hlm0.out]; omega) hI7.out).mono ?_
          rintro e w' ⟨rfl, rfl⟩
          have hc6' : bytes.length ≤ c6 := by rw [← hlm0.out]; omega
          go_wp2_with fail
          refine (same_any _ _ c8 M _ _ c6 M w7 hlm0.out.symm hlm0.out.symm (by rw [hlm0.out]; omega) hI7.out hJ7.out).mono ?_
          rintro e w8 ⟨rfl, q8, rfl⟩
          rw [show decide (M = M) = true from decide_eq_true rfl]
          have hD7 : Hid (Held (w7.drewN q8) w.heap.size vg' vw' (T ++ ([⟨⟨.slice ao6 (0) cc6, 5, 1, 0, P.map (Value.int .u8)⟩, ⟨.slice ao7 (0) cc7, 5, 1, 0, P.map (Value.int .u8)⟩, ⟨.slice ao5 (0) cc5, 5, 1, 0, P.map (Value.int .u8)⟩, P⟩] : List Trip))) := hS7.out.held.drewN q8
          go_wp2_with fail
          go_roundw
          case rel => exact ⟨_, k + 1, _, _, rfl, rfl, by go_num, by omega, hTT.out, hT00.out, hD7.out, below_drewN' hS7.out.bel _⟩
          case measure => simp [intOf]; omega
        · skip
          go_wp2_with fail
          have h34 := refput W hW.out.le.1 hW.out.le.2 (some ⟨gx, 1, none⟩) xr.length (c4 - 1) xr w4 rfl (by omega) hxr.out
          refine h34.mono ?_
          clear h34
          rintro e w5 ⟨v5, rfl, ho5, hb5⟩
          -- ho5
          have hP5 := hid (hxr.out.mono hb5)
          have hS5 := hid (hS4.out.below hb5)
          have hO5 := hid ho5
          have hs5 := hid hb5.size
          clear ho5 hb5 hS4
          go_wp2_with fail
          have h24 := lputU hW.out (some ⟨gx, 1, none⟩) xr.length (c4 - 1) xr w5 rfl (by omega) hP5.out hxb.out
          refine h24.mono ?_
          clear h24
          rintro e w6 ⟨v6, rfl, ho6, hb6⟩
          -- ho6
          have hP6 := hid (hP5.out.mono hb6)
          have hS6 := hid (hS5.out.below hb6)
          have hO56 := hid (own_mono hO5.out hb6 (Nat.le_refl _))
          have a13 := hid (own_apart hO5.out ho6 (Nat.le_refl _))
          have hO6 := hid ho6
          have hs6 := hid hb6.size
          clear ho6 hb6 hS5 hP5
          go_wp2_with fail
          have h24 := lputU hW.out (some ⟨gx, 1, none⟩) xr.length (c4 - 1) xr w6 rfl (by omega) hP6.out hxb.out
          refine h24.mono ?_
          clear h24
          rintro e w7 ⟨v7, rfl, ho7, hb7⟩
          -- ho7
          have hS7 := hid (hS6.out.below hb7)
          have hO57 := hid (own_mono hO56.out hb7 (Nat.le_refl _))
          have hO67 := hid (own_mono hO6.out hb7 (Nat.le_refl _))
          have a12 := hid (own_apart hO6.out ho7 (Nat.le_refl _))
          have a23 := hid (own_apart hO5.out ho7 hs6.out)
          have hO7 := hid ho7
          have hs7 := hid hb7.size
          have hpl := hid (show xr.length * W = (putL W xr).length from by rw [putL_len]; first | exact Nat.mul_comm _ _ | rfl)
          have hpb := hid (putL_byt W xr)
          have hpn : Hid (xr.length * W ≤ 100000000) := by
            have h1 := hW.out.le.2
            have h2 := Nat.mul_le_mul_left (xr.length) h1
            unfold Hid
            omega
          clear ho7 hb7 hS6 hP6
          obtain ⟨P, hP⟩ : ∃ P, P = putL W xr := ⟨_, rfl⟩
          rw [← hP] at hO57 hO67 hO7 hpl hpb
          clear hP
          obtain ⟨ao5, cc5, hv5, -⟩ := own_any_shape hO57.out
          obtain ⟨ao6, cc6, hv6, -⟩ := own_any_shape hO67.out
          obtain ⟨ao7, cc7, hv7, -⟩ := own_any_shape hO7.out
          subst hv5 hv6 hv7
          have hfm := hid (show ∀ q, (Value.slice (some ⟨g, 0, none⟩) (bytes.length + 64) c8).ownBlock = some q → q < w4.heap.size from fun q hq => by
              simp only [Value.ownBlock, Option.some.injEq] at hq; have := hg2'.out; have := hsz4.out; omega)
          go_wp2_with (first | (at_builtin; refine wpList_append_str rfl _ _ 63 rfl w.heap.size 23 23 (.slice none 0 0) 1 24 2 Try.underlying63 (by kernel_rfl) rfl (by decide) _ (T.flatMap Trip.got).length _ [_, _] (0, 0) hS7.out.held.got_own rfl (by simp [Value.oneCell']) (by rw [got_len]; have := hTl.out; unfold maxLen; omega) (by rw [got_len]; have := hTl.out; omega) hS7.out.bel.size rfl rfl ?_; intro vg' wg hA1; have hA1' := hid hA1; have hsg := hid (Nat.le_trans hS7.out.bel.size hA1.grown.size); have hWo := hid (hS7.out.held.want_on hA1); clear hA1) | (at_builtin; go_must (refine wpList_append_str rfl _ _ 63 rfl w.heap.size 23 23 (.slice none 0 0) 1 24 2 Try.underlying63 (by kernel_rfl) rfl (by decide) _ (T.flatMap Trip.want).length _ [_, _] (0, 0) hWo.out rfl (by simp [Value.oneCell']) (by rw [want_len]; have := hTl.out; unfold maxLen; omega) (by rw [want_len]; have := hTl.out; omega) hsg.out rfl rfl ?_); intro vw' ww hA2; have hS9 : Hid (Op w wr ww ⟨0, wd, ao, cp, nums, bo, bcap, bytes, at_, val⟩ (.slice (some ⟨g, 0, none⟩) (bytes.length + 64) c8) vg' vw' (T ++ ([⟨⟨.slice ao6 (xr.length * W) cc6, 5, 1, xr.length * W, P.map (Value.int .u8)⟩, ⟨.slice ao7 (xr.length * W) cc7, 5, 1, xr.length * W, P.map (Value.int .u8)⟩, ⟨.slice ao5 (xr.length * W) cc5, 5, 1, xr.length * W, P.map (Value.int .u8)⟩, P⟩] : List Trip))) := (hS7.out.two hH.out (wm := w4) (Nat.le_of_lt (World.block_lt_of_cell? w4 _ q00.out)) (hfm.out) (Nat.le_trans hs5.out (Nat.le_trans hs6.out hs7.out)) ⟨⟨.slice ao6 (xr.length * W) cc6, 5, 1, xr.length * W, P.map (Value.int .u8)⟩, ⟨.slice ao7 (xr.length * W) cc7, 5, 1, xr.length * W, P.map (Value.int .u8)⟩, ⟨.slice ao5 (xr.length * W) cc5, 5, 1, xr.length * W, P.map (Value.int .u8)⟩, P⟩ ⟨⟨rfl, rfl, hpl.out, hpn.out, rfl⟩, ⟨rfl, rfl, hpl.out, hpn.out, rfl⟩, ⟨rfl, rfl, hpl.out, hpn.out, rfl⟩, hpb.out⟩ (own_base hO67.out hs5.out) (own_base hO7.out (Nat.le_trans hs5.out hs6.out)) hO57.out a12.out (RowS.apart_symm (a := ⟨_, 5, 1, 0, []⟩) (b := ⟨_, 5, 1, 0, []⟩) a13.out) (RowS.apart_symm (a := ⟨_, 5, 1, 0, []⟩) (b := ⟨_, 5, 1, 0, []⟩) a23.out) hA1'.out hA2); have q3 : ww.cell? ⟨wr.heap.size, 3, none⟩ = some (.slice bo bytes.length bcap) := hS9.out.c3))
          have hTT : Hid ((T ++ ([⟨⟨.slice ao6 (xr.length * W) cc6, 5, 1, xr.length * W, P.map (Value.int .u8)⟩, ⟨.slice ao7 (xr.length * W) cc7, 5, 1, xr.length * W, P.map (Value.int .u8)⟩, ⟨.slice ao5 (xr.length * W) cc5, 5, 1, xr.length * W, P.map (Value.int .u8)⟩, P⟩] : List Trip) : List Trip).length ≤ k + 1) := by have := hTl.out; show (T ++ ([⟨⟨.slice ao6 (xr.length * W) cc6, 5, 1, xr.length * W, P.map (Value.int .u8)⟩, ⟨.slice ao7 (xr.length * W) cc7, 5, 1, xr.length * W, P.map (Value.int .u8)⟩, ⟨.slice ao5 (xr.length * W) cc5, 5, 1, xr.length * W, P.map (Value.int .u8)⟩, P⟩] : List Trip)).length ≤ k + 1; rw [List.length_append, List.length_singleton]; omega
          have hT00 : Hid (T ++ ([⟨⟨.slice ao6 (xr.length * W) cc6, 5, 1, xr.length * W, P.map (Value.int .u8)⟩, ⟨.slice ao7 (xr.length * W) cc7, 5, 1, xr.length * W, P.map (Value.int .u8)⟩, ⟨.slice ao5 (xr.length * W) cc5, 5, 1, xr.length * W, P.map (Value.int .u8)⟩, P⟩] : List Trip) = [] → vg' = .slice none 0 0) := fun h => absurd h (by simp)
          clear hA1' hA2 hWo hsg hS7 a12 a13 a23 hO5 hO56 hO57 hO6 hO67 hO7 hpl hpb hpn hs5 hs6 hs7
          clear hI4' hxr hx0 hxb hxm hxu hc4x hvb hT hTl
          have hL1 : Hid (Ints .u8 ww (some ⟨g, 0, none⟩) (lentL bytes)) := hS9.out.lies.1
          have hL2 : Hid (Ints .u8 ww bo bytes) := hS9.out.lies.2.2
          have h20 := kept_any (some ⟨g, 0, none⟩) (bytes.length + 64) c8 bo bytes.length bcap bytes ww (by rw [lentL_len]) rfl (by omega) hL1.out hL2.out
          refine h20.mono ?_
          clear h20
          rintro e wk ⟨rfl, qk, rfl⟩
          clear q3 hL1 hL2
          go_wp2_with fail
          have hOl : Hid ((ww.drewN qk).ownsRow (wr.heap.size + 1) 5 1 (.slice (some ⟨g, 0, none⟩) bytes.length c8) bytes.length (((lentL bytes).map (Value.int .u8)).take bytes.length)) := own_take (n := bytes.length + 64) (hS9.out.drewN qk).full (by omega)
          have h21 := over_any g bytes.length c8 _ _ _ hOl.out (by omega)
          refine h21.mono ?_
          clear h21
          rintro e wo ⟨rfl, ho5, hgr5⟩
          have hM0 := hid (show Byt ((List.range bytes.length).map (fun i : Nat => markB (-1) i)) from fun x hx => by
            obtain ⟨i, _, rfl⟩ := List.mem_map.1 hx
            exact markB_bd _ _)
          have hlm0 := hid (show ((List.range bytes.length).map (fun i : Nat => markB (-1) i)).length = bytes.length from by simp)
          obtain ⟨M, hM⟩ : ∃ M, M = (List.range bytes.length).map (fun i : Nat => markB (-1) i) := ⟨_, rfl⟩
          rw [← hM] at ho5 hM0 hlm0
          clear hM hOl
          have hS5 := hid ((hS9.out.drewN qk).over (c := c8) hgr5 ho5)
          obtain ⟨a5, c5, hv5, hI5, -⟩ := ints_of_own ho5 (ints_of_byt hM0.out)
          simp only [Value.slice.injEq] at hv5
          obtain ⟨rfl, hv6, rfl⟩ := hv5
          have hI5' := hid hI5
          clear hv6 ho5 hgr5 hI5
          go_wp2_with fail
          refine (lent_any _ _ c8 M _ hlm0.out.symm (by rw [hlm0.out]; omega) hI5'.out).mono ?_
          rintro e w6 ⟨v6, rfl, ho6, hb6⟩
          have hS6 := hid (hS5.out.below hb6)
          have hI6 := hid (hI5'.out.mono hb6)
          obtain ⟨g6, c6, hv6, -, -, hc6, -⟩ := own_shape ho6 (by omega)
          subst hv6
          have hO6 := hid (own_take ho6 (show M.length ≤ M.length + 64 by omega))
          clear ho6 hb6 hS5 hI5'
          go_wp2_with fail
          refine (allsU hW.out _ _ c8 M w6 hlm0.out.symm (by rw [hlm0.out]; omega) (by rw [hlm0.out]; omega) hI6.out).mono ?_
          rintro e w7 ⟨rfl, hb7⟩
          have hS7 := hid (hS6.out.below hb7)
          have hI7 := hid (hI6.out.mono hb7)
          have hO7 := hid (own_mono hO6.out hb7 (Nat.le_refl _))
          have hJ7 : Hid (Ints .u8 w7 (some ⟨g6, 0, none⟩) M) := by
            have ho := hO7.out
            rw [show (List.map (Value.int .u8) (lentL M)).take M.length = M.map (Value.int .u8) from by rw [← List.map_take]; unfold lentL; rw [List.take_left]] at ho
            obtain ⟨a, c, hv, hI, -⟩ := ints_of_own ho (ints_of_byt hM0.out)
            simp only [Value.slice.injEq] at hv
            obtain ⟨rfl, -, -⟩ := hv
            exact hI
          have q4 : w7.cell? ⟨wr.heap.size, 4, none⟩ = some (.int .i64 at_) := hS7.out.c4
          clear hS6 hI6 hb7 hO6 hO7
          go_wp2_with fail
          refine (atsU hW.out _ _ c8 M at_ w7 hat.out hlm0.out.symm (by rw [hlm0.out]; omega) (by rw [hlm0.out]; omega) hI7.out).mono ?_
          rintro e w' ⟨rfl, rfl⟩
          have hc6' : bytes.length ≤ c6 := by rw [← hlm0.out]; omega
          go_wp2_with fail
          refine (same_any _ _ c8 M _ _ c6 M w7 hlm0.out.symm hlm0.out.symm (by rw [hlm0.out]; omega) hI7.out hJ7.out).mono ?_
          rintro e w8 ⟨rfl, q8, rfl⟩
          rw [show decide (M = M) = true from decide_eq_true rfl]
          have hD7 : Hid (Held (w7.drewN q8) w.heap.size vg' vw' (T ++ ([⟨⟨.slice ao6 (xr.length * W) cc6, 5, 1, xr.length * W, P.map (Value.int .u8)⟩, ⟨.slice ao7 (xr.length * W) cc7, 5, 1, xr.length * W, P.map (Value.int .u8)⟩, ⟨.slice ao5 (xr.length * W) cc5, 5, 1, xr.length * W, P.map (Value.int .u8)⟩, P⟩] : List Trip))) := hS7.out.held.drewN q8
          go_wp2_with fail
          go_roundw
          case rel => exact ⟨_, k + 1, _, _, rfl, rfl, by go_num, by omega, hTT.out, hT00.out, hD7.out, below_drewN' hS7.out.bel _⟩
          case measure => simp [intOf]; omega
      · have hk0 : (kd == 0) = false := beq_eq_false_iff_ne.2 h0
        clear h0
        by_cases h1 : kd = 1
        · subst h1
          go_wp2_with fail
          have hL0 : Ints .u8 w4 (some ⟨g, 0, none⟩) bytes := hS4.out.lies.2.1
          have h35 := allsU hW.out (some ⟨g, 0, none⟩) bytes.length c8 bytes w4 rfl (by omega) (by omega) hL0
          refine h35.mono ?_
          clear h35 hL0
          rintro e w5 ⟨rfl, hb5⟩
          have hS9 := hid (hS4.out.below hb5)
          clear hb5 hS4
          have hTT : Hid (T.length ≤ k + 1) := Nat.le_succ_of_le hTl.out
          have hT00 : Hid (T = [] → vg = .slice none 0 0) := hT.out
          have q3 : w5.cell? ⟨wr.heap.size, 3, none⟩ = some (.slice bo bytes.length bcap) := hS9.out.c3
          go_wp2_with fail
          clear hI4' hxr hx0 hxb hxm hxu hc4x hvb hT hTl
          have hL1 : Hid (Ints .u8 w5 (some ⟨g, 0, none⟩) (lentL bytes)) := hS9.out.lies.1
          have hL2 : Hid (Ints .u8 w5 bo bytes) := hS9.out.lies.2.2
          have h20 := kept_any (some ⟨g, 0, none⟩) (bytes.length + 64) c8 bo bytes.length bcap bytes w5 (by rw [lentL_len]) rfl (by omega) hL1.out hL2.out
          refine h20.mono ?_
          clear h20
          rintro e wk ⟨rfl, qk, rfl⟩
          clear q3 hL1 hL2
          go_wp2_with fail
          have hOl : Hid ((w5.drewN qk).ownsRow (wr.heap.size + 1) 5 1 (.slice (some ⟨g, 0, none⟩) bytes.length c8) bytes.length (((lentL bytes).map (Value.int .u8)).take bytes.length)) := own_take (n := bytes.length + 64) (hS9.out.drewN qk).full (by omega)
          have h21 := over_any g bytes.length c8 _ _ _ hOl.out (by omega)
          refine h21.mono ?_
          clear h21
          rintro e wo ⟨rfl, ho5, hgr5⟩
          have hM0 := hid (show Byt ((List.range bytes.length).map (fun i : Nat => markB (-1) i)) from fun x hx => by
            obtain ⟨i, _, rfl⟩ := List.mem_map.1 hx
            exact markB_bd _ _)
          have hlm0 := hid (show ((List.range bytes.length).map (fun i : Nat => markB (-1) i)).length = bytes.length from by simp)
          obtain ⟨M, hM⟩ : ∃ M, M = (List.range bytes.length).map (fun i : Nat => markB (-1) i) := ⟨_, rfl⟩
          rw [← hM] at ho5 hM0 hlm0
          clear hM hOl
          have hS5 := hid ((hS9.out.drewN qk).over (c := c8) hgr5 ho5)
          obtain ⟨a5, c5, hv5, hI5, -⟩ := ints_of_own ho5 (ints_of_byt hM0.out)
          simp only [Value.slice.injEq] at hv5
          obtain ⟨rfl, hv6, rfl⟩ := hv5
          have hI5' := hid hI5
          clear hv6 ho5 hgr5 hI5
          go_wp2_with fail
          refine (lent_any _ _ c8 M _ hlm0.out.symm (by rw [hlm0.out]; omega) hI5'.out).mono ?_
          rintro e w6 ⟨v6, rfl, ho6, hb6⟩
          have hS6 := hid (hS5.out.below hb6)
          have hI6 := hid (hI5'.out.mono hb6)
          obtain ⟨g6, c6, hv6, -, -, hc6, -⟩ := own_shape ho6 (by omega)
          subst hv6
          have hO6 := hid (own_take ho6 (show M.length ≤ M.length + 64 by omega))
          clear ho6 hb6 hS5 hI5'
          go_wp2_with fail
          refine (allsU hW.out _ _ c8 M w6 hlm0.out.symm (by rw [hlm0.out]; omega) (by rw [hlm0.out]; omega) hI6.out).mono ?_
          rintro e w7 ⟨rfl, hb7⟩
          have hS7 := hid (hS6.out.below hb7)
          have hI7 := hid (hI6.out.mono hb7)
          have hO7 := hid (own_mono hO6.out hb7 (Nat.le_refl _))
          have hJ7 : Hid (Ints .u8 w7 (some ⟨g6, 0, none⟩) M) := by
            have ho := hO7.out
            rw [show (List.map (Value.int .u8) (lentL M)).take M.length = M.map (Value.int .u8) from by rw [← List.map_take]; unfold lentL; rw [List.take_left]] at ho
            obtain ⟨a, c, hv, hI, -⟩ := ints_of_own ho (ints_of_byt hM0.out)
            simp only [Value.slice.injEq] at hv
            obtain ⟨rfl, -, -⟩ := hv
            exact hI
          have q4 : w7.cell? ⟨wr.heap.size, 4, none⟩ = some (.int .i64 at_) := hS7.out.c4
          clear hS6 hI6 hb7 hO6 hO7
          go_wp2_with fail
          refine (atsU hW.out _ _ c8 M at_ w7 hat.out hlm0.out.symm (by rw [hlm0.out]; omega) (by rw [hlm0.out]; omega) hI7.out).mono ?_
          rintro e w' ⟨rfl, rfl⟩
          have hc6' : bytes.length ≤ c6 := by rw [← hlm0.out]; omega
          go_wp2_with fail
          refine (same_any _ _ c8 M _ _ c6 M w7 hlm0.out.symm hlm0.out.symm (by rw [hlm0.out]; omega) hI7.out hJ7.out).mono ?_
          rintro e w8 ⟨rfl, q8, rfl⟩
          rw [show decide (M = M) = true from decide_eq_true rfl]
          have hD7 : Hid (Held (w7.drewN q8) w.heap.size vg vw T) := hS7.out.held.drewN q8
          go_wp2_with fail
          go_roundw
          case rel => exact ⟨_, k + 1, _, _, rfl, rfl, by go_num, by omega, hTT.out, hT00.out, hD7.out, below_drewN' hS7.out.bel _⟩
          case measure => simp [intOf]; omega
        · have hk1 : (kd == 1) = false := beq_eq_false_iff_ne.2 h1
          clear h1
          by_cases h2 : kd = 2
          · subst h2
            have q4 : w4.cell? ⟨wr.heap.size, 4, none⟩ = some (.int .i64 at_) := hS4.out.c4
            go_wp2_with fail
            have hL0 : Ints .u8 w4 (some ⟨g, 0, none⟩) bytes := hS4.out.lies.2.1
            have h36 := atsU hW.out (some ⟨g, 0, none⟩) bytes.length c8 bytes at_ w4 hat.out rfl (by omega) (by omega) hL0
            refine h36.mono ?_
            clear h36 hL0
            rintro e w' ⟨rfl, rfl⟩
            have hS9 := hid hS4.out
            clear hS4 q4
            have hTT : Hid (T.length ≤ k + 1) := Nat.le_succ_of_le hTl.out
            have hT00 : Hid (T = [] → vg = .slice none 0 0) := hT.out
            have q3 : w4.cell? ⟨wr.heap.size, 3, none⟩ = some (.slice bo bytes.length bcap) := hS9.out.c3
            go_wp2_with fail
            clear hI4' hxr hx0 hxb hxm hxu hc4x hvb hT hTl
            have hL1 : Hid (Ints .u8 w4 (some ⟨g, 0, none⟩) (lentL bytes)) := hS9.out.lies.1
            have hL2 : Hid (Ints .u8 w4 bo bytes) := hS9.out.lies.2.2
            have h20 := kept_any (some ⟨g, 0, none⟩) (bytes.length + 64) c8 bo bytes.length bcap bytes w4 (by rw [lentL_len]) rfl (by omega) hL1.out hL2.out
            refine h20.mono ?_
            clear h20
            rintro e wk ⟨rfl, qk, rfl⟩
            clear q3 hL1 hL2
            go_wp2_with fail
            have hOl : Hid ((w4.drewN qk).ownsRow (wr.heap.size + 1) 5 1 (.slice (some ⟨g, 0, none⟩) bytes.length c8) bytes.length (((lentL bytes).map (Value.int .u8)).take bytes.length)) := own_take (n := bytes.length + 64) (hS9.out.drewN qk).full (by omega)
            have h21 := over_any g bytes.length c8 _ _ _ hOl.out (by omega)
            refine h21.mono ?_
            clear h21
            rintro e wo ⟨rfl, ho5, hgr5⟩
            have hM0 := hid (show Byt ((List.range bytes.length).map (fun i : Nat => markB (-1) i)) from fun x hx => by
              obtain ⟨i, _, rfl⟩ := List.mem_map.1 hx
              exact markB_bd _ _)
            have hlm0 := hid (show ((List.range bytes.length).map (fun i : Nat => markB (-1) i)).length = bytes.length from by simp)
            obtain ⟨M, hM⟩ : ∃ M, M = (List.range bytes.length).map (fun i : Nat => markB (-1) i) := ⟨_, rfl⟩
            rw [← hM] at ho5 hM0 hlm0
            clear hM hOl
            have hS5 := hid ((hS9.out.drewN qk).over (c := c8) hgr5 ho5)
            obtain ⟨a5, c5, hv5, hI5, -⟩ := ints_of_own ho5 (ints_of_byt hM0.out)
            simp only [Value.slice.injEq] at hv5
            obtain ⟨rfl, hv6, rfl⟩ := hv5
            have hI5' := hid hI5
            clear hv6 ho5 hgr5 hI5
            go_wp2_with fail
            refine (lent_any _ _ c8 M _ hlm0.out.symm (by rw [hlm0.out]; omega) hI5'.out).mono ?_
            rintro e w6 ⟨v6, rfl, ho6, hb6⟩
            have hS6 := hid (hS5.out.below hb6)
            have hI6 := hid (hI5'.out.mono hb6)
            obtain ⟨g6, c6, hv6, -, -, hc6, -⟩ := own_shape ho6 (by omega)
            subst hv6
            have hO6 := hid (own_take ho6 (show M.length ≤ M.length + 64 by omega))
            clear ho6 hb6 hS5 hI5'
            go_wp2_with fail
            refine (allsU hW.out _ _ c8 M w6 hlm0.out.symm (by rw [hlm0.out]; omega) (by rw [hlm0.out]; omega) hI6.out).mono ?_
            rintro e w7 ⟨rfl, hb7⟩
            have hS7 := hid (hS6.out.below hb7)
            have hI7 := hid (hI6.out.mono hb7)
            have hO7 := hid (own_mono hO6.out hb7 (Nat.le_refl _))
            have hJ7 : Hid (Ints .u8 w7 (some ⟨g6, 0, none⟩) M) := by
              have ho := hO7.out
              rw [show (List.map (Value.int .u8) (lentL M)).take M.length = M.map (Value.int .u8) from by rw [← List.map_take]; unfold lentL; rw [List.take_left]] at ho
              obtain ⟨a, c, hv, hI, -⟩ := ints_of_own ho (ints_of_byt hM0.out)
              simp only [Value.slice.injEq] at hv
              obtain ⟨rfl, -, -⟩ := hv
              exact hI
            have q4 : w7.cell? ⟨wr.heap.size, 4, none⟩ = some (.int .i64 at_) := hS7.out.c4
            clear hS6 hI6 hb7 hO6 hO7
            go_wp2_with fail
            refine (atsU hW.out _ _ c8 M at_ w7 hat.out hlm0.out.symm (by rw [hlm0.out]; omega) (by rw [hlm0.out]; omega) hI7.out).mono ?_
            rintro e w' ⟨rfl, rfl⟩
            have hc6' : bytes.length ≤ c6 := by rw [← hlm0.out]; omega
            go_wp2_with fail
            refine (same_any _ _ c8 M _ _ c6 M w7 hlm0.out.symm hlm0.out.symm (by rw [hlm0.out]; omega) hI7.out hJ7.out).mono ?_
            rintro e w8 ⟨rfl, q8, rfl⟩
            rw [show decide (M = M) = true from decide_eq_true rfl]
            have hD7 : Hid (Held (w7.drewN q8) w.heap.size vg vw T) := hS7.out.held.drewN q8
            go_wp2_with fail
            go_roundw
            case rel => exact ⟨_, k + 1, _, _, rfl, rfl, by go_num, by omega, hTT.out, hT00.out, hD7.out, below_drewN' hS7.out.bel _⟩
            case measure => simp [intOf]; omega
          · have hk2 : (kd == 2) = false := beq_eq_false_iff_ne.2 h2
            clear h2
            have q4 : w4.cell? ⟨wr.heap.size, 4, none⟩ = some (.int .i64 at_) := hS4.out.c4
            have qx : w4.cell? ⟨gx, 0, none⟩ = some (.int .u64 x0) := qx0.out
            by_cases hok : 0 ≤ at_ ∧ at_ + W ≤ (bytes.length : Int)
            · skip
              obtain ⟨ka, hka0⟩ := Int.eq_ofNat_of_zero_le hok.1
              have hka : ka + W ≤ bytes.length := by omega
              have hKa := hid hka0
              have hpl := hid (show bytes.length = (withL W bytes ka x0).length from (withL_len W bytes ka x0 hka).symm)
              have hpb : Hid (Byt (withL W bytes ka x0)) := withL_byt W bytes ka x0 (byt_of_ints hBy.out)
              have hpn : Hid (bytes.length ≤ 100000000) := by unfold Hid; omega
              obtain ⟨P, hP⟩ : ∃ P, P = withL W bytes ka x0 := ⟨_, rfl⟩
              rw [← hP] at hpl hpb
              have hPP := hid hP
              clear hok hka0 hP
              have hL4 : Hid (Ints .u8 w4.drew (some ⟨g, 0, none⟩) bytes) := (hS4.out.below (Below.drew (Below.refl _ _))).lies.2.1
              have hC := hid (refwith W hW.out.le.1 hW.out.le.2 (some ⟨g, 0, none⟩) bytes.length c8 bytes ka x0 w4.drew rfl (by omega) hL4.out hxu.out hka)
              rw [← hPP.out, ← hKa.out] at hC
              go_wp2_with fail
              apply once (fun v w' => w'.ownsRow w4.heap.size 5 1 v bytes.length (P.map (Value.int .u8)) ∧ Below w4.heap.size w4 w')
              · intro H
                go_region_law (go_simp; go_at_call 37; go_loud (refine hC.out.mono ?_); rintro e wq ⟨vq, rfl, hoq, hbq⟩; have hF := hid (And.intro hoq ((Below.drew (Below.refl w4.heap.size w4)).trans hbq)); clear hoq hbq)
                all_goals
                  go_simp
                  exact H _ _ hF.out
              clear hC hL4
              rintro v5 w5 ⟨ho5, hb5⟩
              have hS5 := hid (hS4.out.below hb5)
              clear q4
              have qx5 := hid ((hb5.cell (World.block_lt_of_cell? w4 _ qx0.out)).trans qx0.out)
              clear qx
              have q4 : w5.cell? ⟨wr.heap.size, 4, none⟩ = some (.int .i64 at_) := hS5.out.c4
              have qx : w5.cell? ⟨gx, 0, none⟩ = some (.int .u64 x0) := qx5.out
              have hs5 := hid hb5.size
              have hO5 := hid ho5
              clear ho5
              clear hb5 hS4
              have hL5 : Hid (Ints .u8 w5.drew (some ⟨g, 0, none⟩) bytes) := (hS5.out.below (Below.drew (Below.refl _ _))).lies.2.1
              have hC := hid (lwithU hW.out (some ⟨g, 0, none⟩) bytes.length c8 bytes ka x0 w5.drew rfl (by omega) (by omega) hL5.out hxu.out hka)
              rw [hxm.out] at hC
              rw [← hPP.out, ← hKa.out] at hC
              go_wp2_with fail
              apply once (fun v w' => w'.ownsRow w5.heap.size 5 1 v bytes.length (P.map (Value.int .u8)) ∧ Below w5.heap.size w5 w')
              · intro H
                go_region_law (go_simp; go_at_call 30; go_loud (refine hC.out.mono ?_); rintro e wq ⟨vq, rfl, hoq, hbq⟩; have hF := hid (And.intro hoq ((Below.drew (Below.refl w5.heap.size w5)).trans hbq)); clear hoq hbq)
                all_goals
                  go_simp
                  exact H _ _ hF.out
              clear hC hL5
              rintro v6 w6 ⟨ho6, hb6⟩
              have hS6 := hid (hS5.out.below hb6)
              have qx6 := hid ((hb6.cell (World.block_lt_of_cell? w5 _ qx5.out)).trans qx5.out)
              clear qx q4
              have q4 : w6.cell? ⟨wr.heap.size, 4, none⟩ = some (.int .i64 at_) := hS6.out.c4
              have qx : w6.cell? ⟨gx, 0, none⟩ = some (.int .u64 x0) := qx6.out
              have hs6 := hid hb6.size
              have hO56 := hid (own_mono hO5.out hb6 (Nat.le_refl _))
              have a13 := hid (own_apart hO5.out ho6 (Nat.le_refl _))
              have hO6 := hid ho6
              clear ho6
              clear hb6 hS5
              have hL6 : Hid (Ints .u8 w6.drew (some ⟨g, 0, none⟩) bytes) := (hS6.out.below (Below.drew (Below.refl _ _))).lies.2.1
              have hC := hid (lwithU hW.out (some ⟨g, 0, none⟩) bytes.length c8 bytes ka x0 w6.drew rfl (by omega) (by omega) hL6.out hxu.out hka)
              rw [hxm.out] at hC
              rw [← hPP.out, ← hKa.out] at hC
              go_wp2_with fail
              apply once (fun v w' => w'.ownsRow w6.heap.size 5 1 v bytes.length (P.map (Value.int .u8)) ∧ Below w6.heap.size w6 w')
              · intro H
                go_region_law (go_simp; go_at_call 30; go_loud (refine hC.out.mono ?_); rintro e wq ⟨vq, rfl, hoq, hbq⟩; have hF := hid (And.intro hoq ((Below.drew (Below.refl w6.heap.size w6)).trans hbq)); clear hoq hbq)
                all_goals
                  go_simp
                  exact H _ _ hF.out
              clear hC hL6
              rintro v7 w7 ⟨ho7, hb7⟩
              have hS7 := hid (hS6.out.below hb7)
              clear qx q4
              have hs7 := hid hb7.size
              have hO57 := hid (own_mono hO56.out hb7 (Nat.le_refl _))
              have hO67 := hid (own_mono hO6.out hb7 (Nat.le_refl _))
              have a12 := hid (own_apart hO6.out ho7 (Nat.le_refl _))
              have a23 := hid (own_apart hO5.out ho7 hs6.out)
              have hO7 := hid ho7
              clear ho7
              clear hb7 hS6
              obtain ⟨ao5, cc5, hv5, -⟩ := own_any_shape hO57.out
              obtain ⟨ao6, cc6, hv6, -⟩ := own_any_shape hO67.out
              obtain ⟨ao7, cc7, hv7, -⟩ := own_any_shape hO7.out
              subst hv5 hv6 hv7
              have hfm := hid (show ∀ q, (Value.slice (some ⟨g, 0, none⟩) (bytes.length + 64) c8).ownBlock = some q → q < w4.heap.size from fun q hq => by
                  simp only [Value.ownBlock, Option.some.injEq] at hq; have := hg2'.out; have := hsz4.out; omega)
              go_wp2_with (first | (at_builtin; refine wpList_append_str rfl _ _ 63 rfl w.heap.size 23 23 (.slice none 0 0) 1 24 2 Try.underlying63 (by kernel_rfl) rfl (by decide) _ (T.flatMap Trip.got).length _ [_, _] (0, 0) hS7.out.held.got_own rfl (by simp [Value.oneCell']) (by rw [got_len]; have := hTl.out; unfold maxLen; omega) (by rw [got_len]; have := hTl.out; omega) hS7.out.bel.size rfl rfl ?_; intro vg' wg hA1; have hA1' := hid hA1; have hsg := hid (Nat.le_trans hS7.out.bel.size hA1.grown.size); have hWo := hid (hS7.out.held.want_on hA1); clear hA1) | (at_builtin; go_must (refine wpList_append_str rfl _ _ 63 rfl w.heap.size 23 23 (.slice none 0 0) 1 24 2 Try.underlying63 (by kernel_rfl) rfl (by decide) _ (T.flatMap Trip.want).length _ [_, _] (0, 0) hWo.out rfl (by simp [Value.oneCell']) (by rw [want_len]; have := hTl.out; unfold maxLen; omega) (by rw [want_len]; have := hTl.out; omega) hsg.out rfl rfl ?_); intro vw' ww hA2; have hS9 : Hid (Op w wr ww ⟨kd, wd, ao, cp, nums, bo, bcap, bytes, at_, val⟩ (.slice (some ⟨g, 0, none⟩) (bytes.length + 64) c8) vg' vw' (T ++ ([⟨⟨.slice ao6 bytes.length cc6, 5, 1, bytes.length, P.map (Value.int .u8)⟩, ⟨.slice ao7 bytes.length cc7, 5, 1, bytes.length, P.map (Value.int .u8)⟩, ⟨.slice ao5 bytes.length cc5, 5, 1, bytes.length, P.map (Value.int .u8)⟩, P⟩] : List Trip))) := (hS7.out.two hH.out (wm := w4) (Nat.le_of_lt (World.block_lt_of_cell? w4 _ q00.out)) (hfm.out) (Nat.le_trans hs5.out (Nat.le_trans hs6.out hs7.out)) ⟨⟨.slice ao6 bytes.length cc6, 5, 1, bytes.length, P.map (Value.int .u8)⟩, ⟨.slice ao7 bytes.length cc7, 5, 1, bytes.length, P.map (Value.int .u8)⟩, ⟨.slice ao5 bytes.length cc5, 5, 1, bytes.length, P.map (Value.int .u8)⟩, P⟩ ⟨⟨rfl, rfl, hpl.out, hpn.out, rfl⟩, ⟨rfl, rfl, hpl.out, hpn.out, rfl⟩, ⟨rfl, rfl, hpl.out, hpn.out, rfl⟩, hpb.out⟩ (own_base hO67.out hs5.out) (own_base hO7.out (Nat.le_trans hs5.out hs6.out)) hO57.out a12.out (RowS.apart_symm (a := ⟨_, 5, 1, 0, []⟩) (b := ⟨_, 5, 1, 0, []⟩) a13.out) (RowS.apart_symm (a := ⟨_, 5, 1, 0, []⟩) (b := ⟨_, 5, 1, 0, []⟩) a23.out) hA1'.out hA2); have q3 : ww.cell? ⟨wr.heap.size, 3, none⟩ = some (.slice bo bytes.length bcap) := hS9.out.c3))
              have hTT : Hid ((T ++ ([⟨⟨.slice ao6 bytes.length cc6, 5, 1, bytes.length, P.map (Value.int .u8)⟩, ⟨.slice ao7 bytes.length cc7, 5, 1, bytes.length, P.map (Value.int .u8)⟩, ⟨.slice ao5 bytes.length cc5, 5, 1, bytes.length, P.map (Value.int .u8)⟩, P⟩] : List Trip) : List Trip).length ≤ k + 1) := by have := hTl.out; show (T ++ ([⟨⟨.slice ao6 bytes.length cc6, 5, 1, bytes.length, P.map (Value.int .u8)⟩, ⟨.slice ao7 bytes.length cc7, 5, 1, bytes.length, P.map (Value.int .u8)⟩, ⟨.slice ao5 bytes.length cc5, 5, 1, bytes.length, P.map (Value.int .u8)⟩, P⟩] : List Trip)).length ≤ k + 1; rw [List.length_append, List.length_singleton]; omega
              have hT00 : Hid (T ++ ([⟨⟨.slice ao6 bytes.length cc6, 5, 1, bytes.length, P.map (Value.int .u8)⟩, ⟨.slice ao7 bytes.length cc7, 5, 1, bytes.length, P.map (Value.int .u8)⟩, ⟨.slice ao5 bytes.length cc5, 5, 1, bytes.length, P.map (Value.int .u8)⟩, P⟩] : List Trip) = [] → vg' = .slice none 0 0) := fun h => absurd h (by simp)
              clear hA1' hA2 hWo hsg hS7 hs5 hs6 hs7
              clear hI4' hxr hx0 hxb hxm hxu hc4x hvb hT hTl
              have hL1 : Hid (Ints .u8 ww (some ⟨g, 0, none⟩) (lentL bytes)) := hS9.out.lies.1
              have hL2 : Hid (Ints .u8 ww bo bytes) := hS9.out.lies.2.2
              have h20 := kept_any (some ⟨g, 0, none⟩) (bytes.length + 64) c8 bo bytes.length bcap bytes ww (by rw [lentL_len]) rfl (by omega) hL1.out hL2.out
              refine h20.mono ?_
              clear h20
              rintro e wk ⟨rfl, qk, rfl⟩
              clear q3 hL1 hL2
              go_wp2_with fail
              have hOl : Hid ((ww.drewN qk).ownsRow (wr.heap.size + 1) 5 1 (.slice (some ⟨g, 0, none⟩) bytes.length c8) bytes.length (((lentL bytes).map (Value.int .u8)).take bytes.length)) := own_take (n := bytes.length + 64) (hS9.out.drewN qk).full (by omega)
              have h21 := over_any g bytes.length c8 _ _ _ hOl.out (by omega)
              refine h21.mono ?_
              clear h21
              rintro e wo ⟨rfl, ho5, hgr5⟩
              have hM0 := hid (show Byt ((List.range bytes.length).map (fun i : Nat => markB (-1) i)) from fun x hx => by
                obtain ⟨i, _, rfl⟩ := List.mem_map.1 hx
                exact markB_bd _ _)
              have hlm0 := hid (show ((List.range bytes.length).map (fun i : Nat => markB (-1) i)).length = bytes.length from by simp)
              obtain ⟨M, hM⟩ : ∃ M, M = (List.range bytes.length).map (fun i : Nat => markB (-1) i) := ⟨_, rfl⟩
              rw [← hM] at ho5 hM0 hlm0
              clear hM hOl
              have hS5 := hid ((hS9.out.drewN qk).over (c := c8) hgr5 ho5)
              obtain ⟨a5, c5, hv5, hI5, -⟩ := ints_of_own ho5 (ints_of_byt hM0.out)
              simp only [Value.slice.injEq] at hv5
              obtain ⟨rfl, hv6, rfl⟩ := hv5
              have hI5' := hid hI5
              clear hv6 ho5 hgr5 hI5
              go_wp2_with fail
              refine (lent_any _ _ c8 M _ hlm0.out.symm (by rw [hlm0.out]; omega) hI5'.out).mono ?_
              rintro e w6 ⟨v6, rfl, ho6, hb6⟩
              have hS6 := hid (hS5.out.below hb6)
              have hI6 := hid (hI5'.out.mono hb6)
              obtain ⟨g6, c6, hv6, -, -, hc6, -⟩ := own_shape ho6 (by omega)
              subst hv6
              have hO6 := hid (own_take ho6 (show M.length ≤ M.length + 64 by omega))
              clear ho6 hb6 hS5 hI5'
              go_wp2_with fail
              refine (allsU hW.out _ _ c8 M w6 hlm0.out.symm (by rw [hlm0.out]; omega) (by rw [hlm0.out]; omega) hI6.out).mono ?_
              rintro e w7 ⟨rfl, hb7⟩
              have hS7 := hid (hS6.out.below hb7)
              have hI7 := hid (hI6.out.mono hb7)
              have hO7 := hid (own_mono hO6.out hb7 (Nat.le_refl _))
              have hJ7 : Hid (Ints .u8 w7 (some ⟨g6, 0, none⟩) M) := by
                have ho := hO7.out
                rw [show (List.map (Value.int .u8) (lentL M)).take M.length = M.map (Value.int .u8) from by rw [← List.map_take]; unfold lentL; rw [List.take_left]] at ho
                obtain ⟨a, c, hv, hI, -⟩ := ints_of_own ho (ints_of_byt hM0.out)
                simp only [Value.slice.injEq] at hv
                obtain ⟨rfl, -, -⟩ := hv
                exact hI
              have q4 : w7.cell? ⟨wr.heap.size, 4, none⟩ = some (.int .i64 at_) := hS7.out.c4
              clear hS6 hI6 hb7 hO6 hO7
              go_wp2_with fail
              refine (atsU hW.out _ _ c8 M at_ w7 hat.out hlm0.out.symm (by rw [hlm0.out]; omega) (by rw [hlm0.out]; omega) hI7.out).mono ?_
              rintro e w' ⟨rfl, rfl⟩
              have hc6' : bytes.length ≤ c6 := by rw [← hlm0.out]; omega
              go_wp2_with fail
              refine (same_any _ _ c8 M _ _ c6 M w7 hlm0.out.symm hlm0.out.symm (by rw [hlm0.out]; omega) hI7.out hJ7.out).mono ?_
              rintro e w8 ⟨rfl, q8, rfl⟩
              rw [show decide (M = M) = true from decide_eq_true rfl]
              have hD7 : Hid (Held (w7.drewN q8) w.heap.size vg' vw' (T ++ ([⟨⟨.slice ao6 bytes.length cc6, 5, 1, bytes.length, P.map (Value.int .u8)⟩, ⟨.slice ao7 bytes.length cc7, 5, 1, bytes.length, P.map (Value.int .u8)⟩, ⟨.slice ao5 bytes.length cc5, 5, 1, bytes.length, P.map (Value.int .u8)⟩, P⟩] : List Trip))) := hS7.out.held.drewN q8
              go_wp2_with fail
              go_roundw
              case rel => exact ⟨_, k + 1, _, _, rfl, rfl, by go_num, by omega, hTT.out, hT00.out, hD7.out, below_drewN' hS7.out.bel _⟩
              case measure => simp [intOf]; omega
            · skip
              have hno := hid hok
              clear hok
              have hL4 : Hid (Ints .u8 w4.drew (some ⟨g, 0, none⟩) bytes) := (hS4.out.below (Below.drew (Below.refl _ _))).lies.2.1
              have hC : Hid (Calls Try.prog 37 #[.int .i64 W, .slice (some ⟨g, 0, none⟩) bytes.length c8, .int .i64 at_, .int .u64 x0] w4.drew fun e w' => ∃ v, e = .returned (.tuple #[v, .int .i64 20]) ∧ v = .slice none 0 0 ∧ Below w4.drew.heap.size w4.drew w') := (refwithNo W hW.out.le.1 hW.out.le.2 (some ⟨g, 0, none⟩) bytes.length c8 at_ x0 w4.drew hat.out (by omega) hno.out).mono (fun e w' h => ⟨.slice none 0 0, h.1, rfl, by rw [← h.2]; exact Below.refl _ _⟩)
              go_wp2_with fail
              apply once (fun v w' => v = .slice none 0 0 ∧ Below w4.heap.size w4 w')
              · intro H
                go_region_law (go_simp; go_at_call 37; go_loud (refine hC.out.mono ?_); rintro e wq ⟨vq, rfl, hoq, hbq⟩; have hF := hid (And.intro hoq ((Below.drew (Below.refl w4.heap.size w4)).trans hbq)); clear hoq hbq)
                all_goals
                  go_simp
                  exact H _ _ hF.out
              clear hC hL4
              rintro v5 w5 ⟨ho5, hb5⟩
              subst ho5
              have hS5 := hid (hS4.out.below hb5)
              clear q4
              have qx5 := hid ((hb5.cell (World.block_lt_of_cell? w4 _ qx0.out)).trans qx0.out)
              clear qx
              have q4 : w5.cell? ⟨wr.heap.size, 4, none⟩ = some (.int .i64 at_) := hS5.out.c4
              have qx : w5.cell? ⟨gx, 0, none⟩ = some (.int .u64 x0) := qx5.out
              have hs5 := hid hb5.size
              clear hb5 hS4
              have hL5 : Hid (Ints .u8 w5.drew (some ⟨g, 0, none⟩) bytes) := (hS5.out.below (Below.drew (Below.refl _ _))).lies.2.1
              have hC : Hid (Calls Try.prog 30 #[.int .i64 W, .slice (some ⟨g, 0, none⟩) bytes.length c8, .int .i64 at_, .int .u64 x0] w5.drew fun e w' => ∃ v, e = .returned (.tuple #[v, .int .i64 20]) ∧ v = .slice none 0 0 ∧ Below w5.drew.heap.size w5.drew w') := (lwithNoU hW.out (some ⟨g, 0, none⟩) bytes.length c8 at_ x0 w5.drew hat.out (by omega) hno.out hxu.out).mono (fun e w' h => ⟨.slice none 0 0, h.1, rfl, by rw [← h.2]; exact Below.refl _ _⟩)
              go_wp2_with fail
              apply once (fun v w' => v = .slice none 0 0 ∧ Below w5.heap.size w5 w')
              · intro H
                go_region_law (go_simp; go_at_call 30; go_loud (refine hC.out.mono ?_); rintro e wq ⟨vq, rfl, hoq, hbq⟩; have hF := hid (And.intro hoq ((Below.drew (Below.refl w5.heap.size w5)).trans hbq)); clear hoq hbq)
                all_goals
                  go_simp
                  exact H _ _ hF.out
              clear hC hL5
              rintro v6 w6 ⟨ho6, hb6⟩
              subst ho6
              have hS6 := hid (hS5.out.below hb6)
              have qx6 := hid ((hb6.cell (World.block_lt_of_cell? w5 _ qx5.out)).trans qx5.out)
              clear qx q4
              have q4 : w6.cell? ⟨wr.heap.size, 4, none⟩ = some (.int .i64 at_) := hS6.out.c4
              have qx : w6.cell? ⟨gx, 0, none⟩ = some (.int .u64 x0) := qx6.out
              have hs6 := hid hb6.size
              clear hb6 hS5
              have hL6 : Hid (Ints .u8 w6.drew (some ⟨g, 0, none⟩) bytes) := (hS6.out.below (Below.drew (Below.refl _ _))).lies.2.1
              have hC : Hid (Calls Try.prog 30 #[.int .i64 W, .slice (some ⟨g, 0, none⟩) bytes.length c8, .int .i64 at_, .int .u64 x0] w6.drew fun e w' => ∃ v, e = .returned (.tuple #[v, .int .i64 20]) ∧ v = .slice none 0 0 ∧ Below w6.drew.heap.size w6.drew w') := (lwithNoU hW.out (some ⟨g, 0, none⟩) bytes.length c8 at_ x0 w6.drew hat.out (by omega) hno.out hxu.out).mono (fun e w' h => ⟨.slice none 0 0, h.1, rfl, by rw [← h.2]; exact Below.refl _ _⟩)
              go_wp2_with fail
              apply once (fun v w' => v = .slice none 0 0 ∧ Below w6.heap.size w6 w')
              · intro H
                go_region_law (go_simp; go_at_call 30; go_loud (refine hC.out.mono ?_); rintro e wq ⟨vq, rfl, hoq, hbq⟩; have hF := hid (And.intro hoq ((Below.drew (Below.refl w6.heap.size w6)).trans hbq)); clear hoq hbq)
                all_goals
                  go_simp
                  exact H _ _ hF.out
              clear hC hL6
              rintro v7 w7 ⟨ho7, hb7⟩
              subst ho7
              have hS7 := hid (hS6.out.below hb7)
              clear qx q4
              have hs7 := hid hb7.size
              clear hb7 hS6
              have hfm := hid (show ∀ q, (Value.slice (some ⟨g, 0, none⟩) (bytes.length + 64) c8).ownBlock = some q → q < w4.heap.size from fun q hq => by
                  simp only [Value.ownBlock, Option.some.injEq] at hq; have := hg2'.out; have := hsz4.out; omega)
              go_wp2_with (first | (at_builtin; refine wpList_append_str rfl _ _ 63 rfl w.heap.size 23 23 (.slice none 0 0) 1 24 2 Try.underlying63 (by kernel_rfl) rfl (by decide) _ (T.flatMap Trip.got).length _ [_, _] (0, 0) hS7.out.held.got_own rfl (by simp [Value.oneCell']) (by rw [got_len]; have := hTl.out; unfold maxLen; omega) (by rw [got_len]; have := hTl.out; omega) hS7.out.bel.size rfl rfl ?_; intro vg' wg hA1; have hA1' := hid hA1; have hsg := hid (Nat.le_trans hS7.out.bel.size hA1.grown.size); have hWo := hid (hS7.out.held.want_on hA1); clear hA1) | (at_builtin; go_must (refine wpList_append_str rfl _ _ 63 rfl w.heap.size 23 23 (.slice none 0 0) 1 24 2 Try.underlying63 (by kernel_rfl) rfl (by decide) _ (T.flatMap Trip.want).length _ [_, _] (0, 0) hWo.out rfl (by simp [Value.oneCell']) (by rw [want_len]; have := hTl.out; unfold maxLen; omega) (by rw [want_len]; have := hTl.out; omega) hsg.out rfl rfl ?_); intro vw' ww hA2; have hS9 : Hid (Op w wr ww ⟨kd, wd, ao, cp, nums, bo, bcap, bytes, at_, val⟩ (.slice (some ⟨g, 0, none⟩) (bytes.length + 64) c8) vg' vw' (T ++ ([⟨⟨.slice none 0 0, 5, 1, 0, []⟩, ⟨.slice none 0 0, 5, 1, 0, []⟩, ⟨.slice none 0 0, 5, 1, 0, []⟩, []⟩] : List Trip))) := (hS7.out.two hH.out (wm := w4) (Nat.le_of_lt (World.block_lt_of_cell? w4 _ q00.out)) (hfm.out) (Nat.le_trans hs5.out (Nat.le_trans hs6.out hs7.out)) ⟨⟨.slice none 0 0, 5, 1, 0, []⟩, ⟨.slice none 0 0, 5, 1, 0, []⟩, ⟨.slice none 0 0, 5, 1, 0, []⟩, []⟩ ⟨⟨rfl, rfl, rfl, by decide, rfl⟩, ⟨rfl, rfl, rfl, by decide, rfl⟩, ⟨rfl, rfl, rfl, by decide, rfl⟩, fun b hb => by cases hb⟩ (World.ownsRow_nil _ _ 5 1) (World.ownsRow_nil _ _ 5 1) (World.ownsRow_nil _ _ 5 1) (.inl rfl) (.inl rfl) (.inl rfl) hA1'.out hA2); have q3 : ww.cell? ⟨wr.heap.size, 3, none⟩ = some (.slice bo bytes.length bcap) := hS9.out.c3))
              have hTT : Hid ((T ++ ([⟨⟨.slice none 0 0, 5, 1, 0, []⟩, ⟨.slice none 0 0, 5, 1, 0, []⟩, ⟨.slice none 0 0, 5, 1, 0, []⟩, []⟩] : List Trip) : List Trip).length ≤ k + 1) := by have := hTl.out; show (T ++ ([⟨⟨.slice none 0 0, 5, 1, 0, []⟩, ⟨.slice none 0 0, 5, 1, 0, []⟩, ⟨.slice none 0 0, 5, 1, 0, []⟩, []⟩] : List Trip)).length ≤ k + 1; rw [List.length_append, List.length_singleton]; omega
              have hT00 : Hid (T ++ ([⟨⟨.slice none 0 0, 5, 1, 0, []⟩, ⟨.slice none 0 0, 5, 1, 0, []⟩, ⟨.slice none 0 0, 5, 1, 0, []⟩, []⟩] : List Trip) = [] → vg' = .slice none 0 0) := fun h => absurd h (by simp)
              clear hA1' hA2 hWo hsg hS7 hs5 hs6 hs7
              clear hI4' hxr hx0 hxb hxm hxu hc4x hvb hT hTl
              have hL1 : Hid (Ints .u8 ww (some ⟨g, 0, none⟩) (lentL bytes)) := hS9.out.lies.1
              have hL2 : Hid (Ints .u8 ww bo bytes) := hS9.out.lies.2.2
              have h20 := kept_any (some ⟨g, 0, none⟩) (bytes.length + 64) c8 bo bytes.length bcap bytes ww (by rw [lentL_len]) rfl (by omega) hL1.out hL2.out
              refine h20.mono ?_
              clear h20
              rintro e wk ⟨rfl, qk, rfl⟩
              clear q3 hL1 hL2
              go_wp2_with fail
              have hOl : Hid ((ww.drewN qk).ownsRow (wr.heap.size + 1) 5 1 (.slice (some ⟨g, 0, none⟩) bytes.length c8) bytes.length (((lentL bytes).map (Value.int .u8)).take bytes.length)) := own_take (n := bytes.length + 64) (hS9.out.drewN qk).full (by omega)
              have h21 := over_any g bytes.length c8 _ _ _ hOl.out (by omega)
              refine h21.mono ?_
              clear h21
              rintro e wo ⟨rfl, ho5, hgr5⟩
              have hM0 := hid (show Byt ((List.range bytes.length).map (fun i : Nat => markB (-1) i)) from fun x hx => by
                obtain ⟨i, _, rfl⟩ := List.mem_map.1 hx
                exact markB_bd _ _)
              have hlm0 := hid (show ((List.range bytes.length).map (fun i : Nat => markB (-1) i)).length = bytes.length from by simp)
              obtain ⟨M, hM⟩ : ∃ M, M = (List.range bytes.length).map (fun i : Nat => markB (-1) i) := ⟨_, rfl⟩
              rw [← hM] at ho5 hM0 hlm0
              clear hM hOl
              have hS5 := hid ((hS9.out.drewN qk).over (c := c8) hgr5 ho5)
              obtain ⟨a5, c5, hv5, hI5, -⟩ := ints_of_own ho5 (ints_of_byt hM0.out)
              simp only [Value.slice.injEq] at hv5
              obtain ⟨rfl, hv6, rfl⟩ := hv5
              have hI5' := hid hI5
              clear hv6 ho5 hgr5 hI5
              go_wp2_with fail
              refine (lent_any _ _ c8 M _ hlm0.out.symm (by rw [hlm0.out]; omega) hI5'.out).mono ?_
              rintro e w6 ⟨v6, rfl, ho6, hb6⟩
              have hS6 := hid (hS5.out.below hb6)
              have hI6 := hid (hI5'.out.mono hb6)
              obtain ⟨g6, c6, hv6, -, -, hc6, -⟩ := own_shape ho6 (by omega)
              subst hv6
              have hO6 := hid (own_take ho6 (show M.length ≤ M.length + 64 by omega))
              clear ho6 hb6 hS5 hI5'
              go_wp2_with fail
              refine (allsU hW.out _ _ c8 M w6 hlm0.out.symm (by rw [hlm0.out]; omega) (by rw [hlm0.out]; omega) hI6.out).mono ?_
              rintro e w7 ⟨rfl, hb7⟩
              have hS7 := hid (hS6.out.below hb7)
              have hI7 := hid (hI6.out.mono hb7)
              have hO7 := hid (own_mono hO6.out hb7 (Nat.le_refl _))
              have hJ7 : Hid (Ints .u8 w7 (some ⟨g6, 0, none⟩) M) := by
                have ho := hO7.out
                rw [show (List.map (Value.int .u8) (lentL M)).take M.length = M.map (Value.int .u8) from by rw [← List.map_take]; unfold lentL; rw [List.take_left]] at ho
                obtain ⟨a, c, hv, hI, -⟩ := ints_of_own ho (ints_of_byt hM0.out)
                simp only [Value.slice.injEq] at hv
                obtain ⟨rfl, -, -⟩ := hv
                exact hI
              have q4 : w7.cell? ⟨wr.heap.size, 4, none⟩ = some (.int .i64 at_) := hS7.out.c4
              clear hS6 hI6 hb7 hO6 hO7
              go_wp2_with fail
              refine (atsU hW.out _ _ c8 M at_ w7 hat.out hlm0.out.symm (by rw [hlm0.out]; omega) (by rw [hlm0.out]; omega) hI7.out).mono ?_
              rintro e w' ⟨rfl, rfl⟩
              have hc6' : bytes.length ≤ c6 := by rw [← hlm0.out]; omega
              go_wp2_with fail
              refine (same_any _ _ c8 M _ _ c6 M w7 hlm0.out.symm hlm0.out.symm (by rw [hlm0.out]; omega) hI7.out hJ7.out).mono ?_
              rintro e w8 ⟨rfl, q8, rfl⟩
              rw [show decide (M = M) = true from decide_eq_true rfl]
              have hD7 : Hid (Held (w7.drewN q8) w.heap.size vg' vw' (T ++ ([⟨⟨.slice none 0 0, 5, 1, 0, []⟩, ⟨.slice none 0 0, 5, 1, 0, []⟩, ⟨.slice none 0 0, 5, 1, 0, []⟩, []⟩] : List Trip))) := hS7.out.held.drewN q8
              go_wp2_with fail
              go_roundw
              case rel => exact ⟨_, k + 1, _, _, rfl, rfl, by go_num, by omega, hTT.out, hT00.out, hD7.out, below_drewN' hS7.out.bel _⟩
              case measure => simp [intOf]; omega
    · skip
      obtain rfl : k = rows.length := by omega
      by_cases hTe : T = []
      · have hv := hT.out hTe
        subst hv
        have hB' := hid hB.out
        go_wp2_with fail
        refine (keep_nil wr vw).mono ?_
        rintro e w' ⟨rfl, rfl⟩
        go_wp2_with fail
        go_ret
        exact ⟨rfl, hB'.out⟩
      · have hTe' := hid hTe
        clear hTe
        go_wp2_with fail
        refine (hH.out.final hTe'.out hB.out.size (by have := hTl.out; omega)).mono ?_
        rintro e w' ⟨rfl, hbl⟩
        have hB' := hid (hB.out.trans hbl)
        clear hbl
        go_wp2_with fail
        go_ret
        exact ⟨rfl, hB'.out⟩
end Go.Proofs.Ytdhicfolchpmhaa
