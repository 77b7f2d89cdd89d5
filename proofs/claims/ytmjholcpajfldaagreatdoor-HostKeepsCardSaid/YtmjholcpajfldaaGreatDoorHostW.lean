/- Walks: the law HostKeeps. No condition. -/
import Derived.Test.YtmjholcpajfldaaGreatDoorHostS
namespace Go.Proofs.YtmjholcpajfldaaGreatDoor
open Go.RowKit
set_option linter.unusedVariables false
set_option linter.unusedSimpArgs false

set_option maxRecDepth 100000

theorem SetR.keep {B h mb : Nat} {cv : Value} {con : List UInt8} {sd ck : Int} {s : ByteArray} {x v : Int} {r : Value} {w w' : World} {q : Nat} {cs : Array Value} (hR : SetR B h mb cv con sd ck s x v r w) (hbx : Bx w q cs 30) (hg : w.grownBy w' (some q)) : SetR B h mb cv con sd ck s x v r w' := by
  obtain ⟨h1, h2⟩ := hR
  refine ⟨h1, ?_⟩
  split at h2
  · rename_i hs; rw [if_pos hs]; exact ⟨h2.1, h2.2.keep30 hbx hg⟩
  · rename_i hs; rw [if_neg hs]; exact ⟨h2.1, h2.2.keep30 hbx hg⟩
theorem GetR.keep {B h mb : Nat} {cv : Value} {con : List UInt8} {sd ck : Int} {s : ByteArray} {x at_ v : Int} {r : Value} {w w' : World} {q : Nat} {cs : Array Value} (hR : GetR B h mb cv con sd ck s x at_ v r w) (hbx : Bx w q cs 30) (hg : w.grownBy w' (some q)) : GetR B h mb cv con sd ck s x at_ v r w' := by
  obtain ⟨h1, h2, g, bo, bc, h3, h4, h5⟩ := hR
  refine ⟨h1, h2.keep30 hbx hg, g, bo, bc, h3, h4.on hg (fun e => ?_), h5.kept hg (.inr (row_ne_box h5 hbx (by decide)))⟩
  simp only [Option.some.injEq] at e
  subst e
  unfold Bx at h4 hbx
  rw [hbx] at h4
  simp at h4
theorem want4 (x : Int) (hx : 0 ≤ x ∧ x ≤ 4294967295) (j : Nat) (hj : j < 4) : (#[Value.int .u8 (x % 256), .int .u8 (x / 256 % 256), .int .u8 (x / 65536 % 256), .int .u8 (x / 16777216)])[j]? = some (.int .u8 ((le 4 x).getD j 0)) := by
  match j, hj with
  | 0, _ => rfl
  | 1, _ => rfl
  | 2, _ => show some (Value.int .u8 (x / 65536 % 256)) = some (.int .u8 (x / 256 / 256 % 256)); rw [show x / 256 / 256 = x / 65536 by omega]
  | 3, _ => show some (Value.int .u8 (x / 16777216)) = some (.int .u8 (x / 256 / 256 / 256 % 256)); rw [show x / 256 / 256 / 256 % 256 = x / 16777216 by omega]
set_option maxHeartbeats 8000000 in
theorem keeps3 (sd : Int) (s : ByteArray) (x bl : Int) (h0 : 0 ≤ sd ∧ sd < 18446744073709551616) (hx : 0 ≤ x ∧ x ≤ 4294967295) (hbl : 0 ≤ bl ∧ bl ≤ 4294967295) (w : World) (htab : ∀ w', Below w.heap.size w w' → TB w') :
    Calls Tryz.prog 3 #[.int .u64 sd, .string s, .int .u32 x, .int .u32 bl] w fun e w' => e = .returned (.bool true) ∧ Below w.heap.size w w' := by
  go_enter Tryz.func3, Tryz.ntmps3
  go_wp2_with fail
  refine (new7 sd h0.1 h0.2 w).mono ?_
  rintro e w1 ⟨rfl, hH, hb1, hs1⟩
  obtain ⟨B, hB⟩ : ∃ B, B = w.heap.size := ⟨_, rfl⟩
  have cl := hid (lives8 w1 (fun w' h' => htab w' (hb1.trans (h'.mono hb1.size))))
  have H1 := hid hH
  have B1 := hid hb1
  clear hH hb1 htab
  go_wp2_with fail
  refine cl.out.mono ?_
  clear cl
  rintro e w2 ⟨rfl, hb2⟩
  have H2 := hid (H1.out.below hb2)
  have B2 := hid (B1.out.trans (hb2.mono B1.out.size))
  have hmk : (Instr.makeSlice 27 (.int .i64 256) (.int .i64 256)).run Tryz.prog w2 = .ok (.slice (some ⟨w2.heap.size, 0, none⟩) 256 256) (w2.alloc (.cells (Array.replicate 256 (.int .u8 0)) 5)) := by kernel_rfl
  have hp0 : (bv (padK s 0)).toArray = Array.replicate 256 (.int .u8 0) := by
    have : padK s 0 = List.replicate 256 0 := by simp [padK]
    rw [this]; exact bv_rep 256
  rw [← hp0] at hmk
  have X3 := hid (Bx.new w2 (bv (padK s 0)).toArray 5)
  have b3 := (Below.refl w2.heap.size w2).alloc (Nat.le_refl _) (.cells (bv (padK s 0)).toArray 5)
  have H3 := hid (H2.out.below b3)
  have B3 := hid (B2.out.trans (b3.mono B2.out.size))
  have hs3 : (w2.alloc (.cells (bv (padK s 0)).toArray 5)).heap.size = w2.heap.size + 1 := by simp
  clear hp0 b3 H1 B1 hb2
  obtain ⟨w3, hw3⟩ : ∃ w3, w2.alloc (.cells (bv (padK s 0)).toArray 5) = w3 := ⟨_, rfl⟩
  rw [hw3] at hmk X3 H3 B3 hs3
  have hne : Hid (∀ b, HT (w.heap.size + 1) w.heap.size (.slice none 0 0) b → b ≠ w2.heap.size) := hid fun b hb => by have := (H2.out.hlt b hb).2; omega
  go_wp2_with fail
  clear hw3 hmk
  go_loopw [11] (fun i wr => ∃ (k : Nat), k ≤ s.size ∧ k ≤ 200 ∧ i = .int .i64 k ∧ Hid (Bx wr w2.heap.size (bv (padK s k)).toArray 5) ∧ Hid (w3.grownBy wr (some w2.heap.size))) (fun i _ => s.size - (intOf i).toNat)
  case atStart => exact ⟨0, by omega, by omega, rfl, X3, hid (grown_refl _ _)⟩
  case round =>
    obtain ⟨k, hk, hk2, rfl, hX, hG⟩ := hrel
    by_cases hlt : k < s.size
    · have e1 : ((k : Int) < (s.size : Int)) = True := eq_true (by omega)
      by_cases hlt2 : k < 200
      · have e2 : ((k : Int) < 200) = True := eq_true (by omega)
        have hpl := padK_len s k hk (by omega)
        have q0 : ∃ u, wr.cell? ⟨w2.heap.size, k, none⟩ = some u := by
          rw [hX.out.cell k]
          exact ⟨_, Array.getElem?_eq_getElem (by simp [bv_len, hpl]; omega)⟩
        obtain ⟨u, q1⟩ := q0
        have f1 := hX.out.free k
        have hX2 := hid (hX.out.set k (.int .u8 (s[k].toNat : Int)))
        rw [padK_succ s k hlt (by omega)] at hX2
        have hG2 := hid (grown_trans hG.out (grown_set wr w2.heap.size k (.int .u8 (s[k].toNat : Int))))
        clear hpl
        go_wp2_with fail
        exact ⟨⟨k + 1, by omega, by omega, by go_num, hX2, hG2⟩, by simp only [intOf]; omega⟩
      · have e2 : ((k : Int) < 200) = False := eq_false (by omega)
        obtain ⟨l, hl⟩ : ∃ l, l = padK s k := ⟨_, rfl⟩
        have hll : l.length = 256 := by rw [hl]; exact padK_len s k hk (by omega)
        have hN : Hid (nmB s = true → nmB (nmOf l) = true) := by
          intro h9
          exfalso
          unfold nmB at h9
          simp only [Bool.and_eq_true, decide_eq_true_eq] at h9
          omega
        have X4 : Hid (Bx wr w2.heap.size (bv l).toArray 5) := by rw [hl]; exact hX
        have H4 : Hid (Ho wr w.heap.size (w.heap.size + 1) (.slice none 0 0) [] w.heap.size [] (seedOf sd) 0) := H3.out.kpt (T := fun b => b = w2.heap.size) (Kpt.gr hG.out (Nat.le_refl _) fun k e => by simp only [Option.some.injEq] at e; exact .inl e.symm) hne.out
        have B4 : Hid (Below w.heap.size w wr) := ⟨B3.out.os ▸ hG.out.os, B3.out.tape ▸ hG.out.tape, B3.out.output ▸ hG.out.output, Nat.le_trans B3.out.size hG.out.size, fun b hb => (hG.out.block b (by have := B3.out.size; omega) (fun e => by simp only [Option.some.injEq] at e; have := B2.out.size; omega)).trans (B3.out.block b hb)⟩
        clear hX hG hl X3 H3
        have ba4 := (Below.refl wr.heap.size wr).alloc (Nat.le_refl _) (.cells #[.int .u32 0, .int .u32 x] 23)
        have AA4 : Bx (wr.alloc (.cells #[.int .u32 0, .int .u32 x] 23)) (wr.heap.size) #[.int .u32 0, .int .u32 x] 23 := Bx.new _ _ _
        have HA4 := H4.out.below ba4
        have XA4 := X4.out.below ba4
        have BA4 := hid (B4.out.trans (ba4.mono B4.out.size))
        have hlt4 := hid HA4.hlt
        have nab4 : ¬ HT (w.heap.size + 1) w.heap.size (.slice none 0 0) (wr.heap.size) := fun hb => by have := (H4.out.hlt _ hb).2; omega
        have cs4 := hid (answer9 w.heap.size (w.heap.size + 1) w.heap.size (.slice none 0 0) [] [] (seedOf sd) 0 11 (by omega) 27 rfl (some ⟨wr.heap.size, 0, none⟩) 2 2 (by decide) w2.heap.size l hll _ XA4 HA4 (SetR w.heap.size (w.heap.size + 1) w.heap.size (.slice none 0 0) [] (seedOf sd) 0 (nmOf l) x) (enters_of Tryz.func48 (by kernel_rfl) rfl)
          (fun w1' q h1' hM hq => set48 (HA4.below h1') q _ (wr.heap.size) l hM x (AA4.below h1') nab4)
          (fun v r w2' w3' q a b hq hbx hg hR => hR.keep hbx hg))
        clear HA4 AA4 ba4 nab4
        go_wp2_with fail
        refine cs4.out.mono ?_
        clear cs4
        rintro e w4 ⟨v4, ao4, m4, cp4, rfl, hk4, hr4⟩
        have BB4 := hid (BA4.out.trans (hk4.below BA4.out.size (fun b hb => (hlt4.out b hb).1)))
        have XB4 := hid (hk4.box XA4 XA4.lt (fun hb => hne.out _ hb rfl))
        clear XA4 BA4 hk4
        obtain ⟨hrn, hr4⟩ := hr4
        simp only [Value.slice.injEq] at hrn
        obtain ⟨rfl, rfl, rfl⟩ := hrn
        have be4 := (Below.refl w4.heap.size w4).alloc (Nat.le_refl _) (.cells #[.int .u32 v4, .slice none 0 0] 30)
        have E4 := hid (Bx.new w4 #[.int .u32 v4, .slice none 0 0] 30)
        have X5 := hid (XB4.out.below be4)
        have B5 := hid (BB4.out.trans (be4.mono BB4.out.size))
        have hs5 : (w4.alloc (.cells #[.int .u32 v4, .slice none 0 0] 30)).heap.size = w4.heap.size + 1 := by simp
        cases hnb : nmB (nmOf l)
        · rw [if_neg (by simp [hnb])] at hr4
          obtain ⟨rfl, hh5⟩ := hr4
          have H5 := hid (hh5.below be4)
          have hnb := hid hnb
          have nE4 := hid (show ¬ HT (w.heap.size + 1) w.heap.size (.slice none 0 0) w4.heap.size from fun hb => by have := (hh5.hlt _ hb).2; omega)
          clear hh5 be4 H4 X4 B4 XB4 BB4
          obtain ⟨w5, hw5⟩ : ∃ w5, w5 = w4.alloc (.cells #[.int .u32 0, .slice none 0 0] 30) := ⟨_, rfl⟩
          rw [← hw5] at E4 X5 B5 H5 hs5
          have HW5 := hid hw5
          clear hw5
          have ba5 := (Below.refl w5.heap.size w5).alloc (Nat.le_refl _) (.cells #[.int .u32 0, .int .u32 240] 23)
          have AA5 : Bx (w5.alloc (.cells #[.int .u32 0, .int .u32 240] 23)) (w4.heap.size + 1) #[.int .u32 0, .int .u32 240] 23 := by rw [← hs5]; exact Bx.new _ _ _
          have HA5 := H5.out.below ba5
          have XA5 := X5.out.below ba5
          have BA5 := hid (B5.out.trans (ba5.mono B5.out.size))
          have hlt5 := hid HA5.hlt
          have nab5 : ¬ HT (w.heap.size + 1) w.heap.size (.slice none 0 0) (w4.heap.size + 1) := fun hb => by have := (H5.out.hlt _ hb).2; omega
          have cs5 := hid (answer9 w.heap.size (w.heap.size + 1) w.heap.size (.slice none 0 0) [] [] (seedOf sd) 0 10 (by omega) 26 rfl (some ⟨w4.heap.size + 1, 0, none⟩) 2 2 (by decide) w2.heap.size l hll _ XA5 HA5 (Get0 w.heap.size (w.heap.size + 1) w.heap.size (.slice none 0 0) [] (seedOf sd) 0) (enters_of Tryz.func47 (by kernel_rfl) rfl)
            (fun w1' q h1' hM hq => get47_nil q _ (w4.heap.size + 1) l x hx 240 (HA5.below h1') hM (AA5.below h1') nab5)
            (fun v r w2' w3' q a b hq hbx hg hR => ⟨hR.1, hR.2.1, hR.2.2.keep30 hbx hg⟩))
          have E4a := hid (E4.out.below ba5)
          clear HA5 AA5 ba5 nab5
          go_wp2_with fail
          have hw5 := HW5.out
          clear HW5
          subst hw5
          refine cs5.out.mono ?_
          clear cs5
          rintro e w6 ⟨v5, ao5, m5, cp5, rfl, hk5, hr5⟩
          have BB5 := hid (BA5.out.trans (hk5.below BA5.out.size (fun b hb => (hlt5.out b hb).1)))
          have XB5 := hid (hk5.box XA5 XA5.lt (fun hb => hne.out _ hb rfl))
          have E4b := hid (hk5.box E4a.out E4a.out.lt nE4.out)
          clear XA5 BA5 hk5 E4a
          obtain ⟨rfl, hrn, hh6⟩ := hr5
          simp only [Value.slice.injEq] at hrn
          obtain ⟨rfl, rfl, rfl⟩ := hrn
          have be6 := (Below.refl w6.heap.size w6).alloc (Nat.le_refl _) (.cells #[.int .u32 0, .slice none 0 0] 30)
          have E6 := hid (Bx.new w6 #[.int .u32 0, .slice none 0 0] 30)
          have X6 := hid (XB5.out.below be6)
          have B6 := hid (BB5.out.trans (be6.mono BB5.out.size))
          have H6 := hid (hh6.below be6)
          have E4b := hid (E4b.out.below be6)
          have hs6 : (w6.alloc (.cells #[.int .u32 0, .slice none 0 0] 30)).heap.size = w6.heap.size + 1 := by simp
          have nE6 := hid (show ¬ HT (w.heap.size + 1) w.heap.size (.slice none 0 0) w6.heap.size from fun hb => by have := (hh6.hlt _ hb).2; omega)
          have nE4b := nE4
          clear hh6 be6 XB5 BB5 E4 X5 B5 H5 hs5
          obtain ⟨w7, hw7⟩ : ∃ w7, w7 = w6.alloc (.cells #[.int .u32 0, .slice none 0 0] 30) := ⟨_, rfl⟩
          rw [← hw7] at E6 X6 B6 H6 E4b hs6
          have HW7 := hid hw7
          clear hw7
          have ba6 := (Below.refl w7.heap.size w7).alloc (Nat.le_refl _) (.cells #[.int .u32 bl] 23)
          have AA6 : Bx (w7.alloc (.cells #[.int .u32 bl] 23)) (w6.heap.size + 1) #[.int .u32 bl] 23 := by rw [← hs6]; exact Bx.new _ _ _
          have HA6 := H6.out.below ba6
          have XA6 := X6.out.below ba6
          have BA6 := hid (B6.out.trans (ba6.mono B6.out.size))
          have hlt6 := hid HA6.hlt
          have nab6 : ¬ HT (w.heap.size + 1) w.heap.size (.slice none 0 0) (w6.heap.size + 1) := fun hb => by have := (H6.out.hlt _ hb).2; omega
          have cs6 := hid (answer9 w.heap.size (w.heap.size + 1) w.heap.size (.slice none 0 0) [] [] (seedOf sd) 0 13 (by omega) 29 rfl (some ⟨w6.heap.size + 1, 0, none⟩) 1 1 (by decide) w2.heap.size l hll _ XA6 HA6 (RndR bl) (enters_of Tryz.func50 (by kernel_rfl) rfl)
            (fun w1' q h1' hM hq => random50 (HA6.below h1') q (w6.heap.size + 1) bl hbl (AA6.below h1') nab6)
            (fun v r w2' w3' q a b hq hbx hg hR => hR))
          have E4ba := hid (E4b.out.below ba6)
          have E6a := hid (E6.out.below ba6)
          clear HA6 AA6 ba6 nab6
          go_wp2_with fail
          have hw7 := HW7.out
          clear HW7
          subst hw7
          refine cs6.out.mono ?_
          clear cs6
          rintro e w8 ⟨v6, ao6, m6, cp6, rfl, hk6, hr6⟩
          have BB6 := hid (BA6.out.trans (hk6.below BA6.out.size (fun b hb => (hlt6.out b hb).1)))
          have XB6 := hid (hk6.box XA6 XA6.lt (fun hb => hne.out _ hb rfl))
          have E4bb := hid (hk6.box E4ba.out E4ba.out.lt nE4b.out)
          have E6b := hid (hk6.box E6a.out E6a.out.lt nE6.out)
          clear XA6 BA6 hk6 E4ba E6a
          obtain ⟨hrn, hv0, hv1⟩ := hr6
          simp only [Value.slice.injEq] at hrn
          obtain ⟨rfl, rfl, rfl⟩ := hrn
          have be8 := (Below.refl w8.heap.size w8).alloc (Nat.le_refl _) (.cells #[.int .u32 v6, .slice none 0 0] 30)
          have B8 := hid (BB6.out.trans (be8.mono BB6.out.size))
          have E8 := hid (Bx.new w8 #[.int .u32 v6, .slice none 0 0] 30)
          have E4c := hid (E4bb.out.below be8)
          have E6c := hid (E6b.out.below be8)
          have e4 : w8.cell? ⟨w4.heap.size, 0, none⟩ = some (.int .u32 0) := by simpa using E4bb.out.cell 0
          have e60 : w8.cell? ⟨w6.heap.size, 0, none⟩ = some (.int .u32 0) := by simpa using E6b.out.cell 0
          have l4 : w4.heap.size < w8.heap.size := E4bb.out.lt
          have l6 : w6.heap.size < w8.heap.size := E6b.out.lt
          clear be8 BB6 XB6 E4bb E6b B6 H6 X6 E4b E6 nE4 nE4b nE6 hlt4 hlt5 hlt6 hs6 hne
          have hbz : ((0 < bl) = False ∧ True) ∨ ((0 < bl) = True ∧ (bl ≤ v6) = False) := by
            by_cases h9 : bl = 0
            · exact .inl ⟨eq_false (by omega), trivial⟩
            · exact .inr ⟨eq_true (by omega), eq_false (by have := hv1 (by omega); omega)⟩
          have hns : nmB s = false := by
            cases h9 : nmB s
            · rfl
            · exact absurd (hN.out h9) (by rw [hnb.out]; decide)
          have cn := hid (fun w' => named10 s w')
          rw [hns] at cn
          clear hns
          rcases hbz with ⟨hz, -⟩ | ⟨hz1, hz2⟩
          · clear hv1 hv0
            go_wp2_with fail
            clear e4 e60 l4 l6
            generalize w8.alloc (.cells #[.int .u32 v6, .slice none 0 0] 30) = w9 at *
            have e4 : w9.cell? ⟨w4.heap.size, 0, none⟩ = some (.int .u32 0) := by simpa using E4c.out.cell 0
            have e60 : w9.cell? ⟨w6.heap.size, 0, none⟩ = some (.int .u32 0) := by simpa using E6c.out.cell 0
            have e61 : w9.cell? ⟨w6.heap.size, 1, none⟩ = some (.slice none 0 0) := by simpa using E6c.out.cell 1
            go_quiet ((go_at_call 10; exact Calls.quiet_of_same (cn.out _)))
            go_wp2_with fail
            go_ret
            exact ⟨rfl, below_drewN' B8.out nq⟩

          · go_wp2_with fail
            clear e4 e60 l4 l6
            generalize w8.alloc (.cells #[.int .u32 v6, .slice none 0 0] 30) = w9 at *
            have e4 : w9.cell? ⟨w4.heap.size, 0, none⟩ = some (.int .u32 0) := by simpa using E4c.out.cell 0
            have e60 : w9.cell? ⟨w6.heap.size, 0, none⟩ = some (.int .u32 0) := by simpa using E6c.out.cell 0
            have e61 : w9.cell? ⟨w6.heap.size, 1, none⟩ = some (.slice none 0 0) := by simpa using E6c.out.cell 1
            go_quiet ((go_at_call 10; exact Calls.quiet_of_same (cn.out _)))
            go_wp2_with fail
            go_ret
            exact ⟨rfl, below_drewN' B8.out nq⟩

        · rw [if_pos hnb] at hr4
          obtain ⟨rfl, hh5⟩ := hr4
          have H5 := hid (hh5.below be4)
          have hnb := hid hnb
          have nE4 := hid (show ¬ HT (w.heap.size + 1) w.heap.size (.slice none 0 0) w4.heap.size from fun hb => by have := (hh5.hlt _ hb).2; omega)
          clear hh5 be4 H4 X4 B4 XB4 BB4
          obtain ⟨w5, hw5⟩ : ∃ w5, w5 = w4.alloc (.cells #[.int .u32 1, .slice none 0 0] 30) := ⟨_, rfl⟩
          rw [← hw5] at E4 X5 B5 H5 hs5
          have HW5 := hid hw5
          clear hw5
          have ba5 := (Below.refl w5.heap.size w5).alloc (Nat.le_refl _) (.cells #[.int .u32 0, .int .u32 240] 23)
          have AA5 : Bx (w5.alloc (.cells #[.int .u32 0, .int .u32 240] 23)) (w4.heap.size + 1) #[.int .u32 0, .int .u32 240] 23 := by rw [← hs5]; exact Bx.new _ _ _
          have HA5 := H5.out.below ba5
          have XA5 := X5.out.below ba5
          have BA5 := hid (B5.out.trans (ba5.mono B5.out.size))
          have hlt5 := hid HA5.hlt
          have nab5 : ¬ HT (w.heap.size + 1) w.heap.size (.slice none 0 0) (w4.heap.size + 1) := fun hb => by have := (H5.out.hlt _ hb).2; omega
          have cs5 := hid (answer9 w.heap.size (w.heap.size + 1) w.heap.size (.slice none 0 0) [] [(nmOf l, .int .u32 x)] (seedOf sd) 0 10 (by omega) 26 rfl (some ⟨w4.heap.size + 1, 0, none⟩) 2 2 (by decide) w2.heap.size l hll _ XA5 HA5 (GetR w.heap.size (w.heap.size + 1) w.heap.size (.slice none 0 0) [] (seedOf sd) 0 (nmOf l) x 240) (enters_of Tryz.func47 (by kernel_rfl) rfl)
            (fun w1' q h1' hM hq => get47_one q _ (w4.heap.size + 1) l x hx 240 (HA5.below h1') hM (AA5.below h1') nab5)
            (fun v r w2' w3' q a b hq hbx hg hR => hR.keep hbx hg))
          have E4a := hid (E4.out.below ba5)
          clear HA5 AA5 ba5 nab5
          go_wp2_with fail
          have hw5 := HW5.out
          clear HW5
          subst hw5
          refine cs5.out.mono ?_
          clear cs5
          rintro e w6 ⟨v5, ao5, m5, cp5, rfl, hk5, hr5⟩
          have BB5 := hid (BA5.out.trans (hk5.below BA5.out.size (fun b hb => (hlt5.out b hb).1)))
          have XB5 := hid (hk5.box XA5 XA5.lt (fun hb => hne.out _ hb rfl))
          have E4b := hid (hk5.box E4a.out E4a.out.lt nE4.out)
          clear XA5 BA5 hk5 E4a
          obtain ⟨rfl, hh6, g, bo, bc, hrn, hG6, hO6⟩ := hr5
          simp only [Value.slice.injEq] at hrn
          obtain ⟨rfl, rfl, rfl⟩ := hrn
          have nGG := hid (show ¬ HT (w.heap.size + 1) w.heap.size (.slice none 0 0) g from fun hb => by
            rcases hb with hb | hb | hb
            · have h1 := hh6.bx
              unfold Bx at h1 hG6
              rw [← hb, hG6] at h1
              simp at h1
            · obtain ⟨es, c, h1, -⟩ := hh6.mp
              unfold Bx at hG6
              rw [← hb, hG6] at h1
              cases h1
            · cases hb)
          have nOO := hid (show ∀ b, (Value.slice bo 4 bc).ownBlock = some b → ¬ HT (w.heap.size + 1) w.heap.size (.slice none 0 0) b from fun b hb0 hb => by
            rcases hb with hb | hb | hb
            · exact row_ne_box hO6 hh6.bx (by decide) (hb ▸ hb0)
            · obtain ⟨es, c, h1, -⟩ := hh6.mp
              rcases hO6.2 with ⟨h9, -⟩ | ⟨g', cap', cur, h9, -, hh, -⟩
              · rw [h9] at hb0; cases hb0
              · rw [h9] at hb0
                simp only [Value.ownBlock, Option.some.injEq] at hb0
                rw [hb0, hb, h1] at hh
                cases hh
            · cases hb)
          have be6 := (Below.refl w6.heap.size w6).alloc (Nat.le_refl _) (.cells #[.int .u32 1, .slice (some ⟨g, 0, none⟩) 1 1] 30)
          have E6 := hid (Bx.new w6 #[.int .u32 1, .slice (some ⟨g, 0, none⟩) 1 1] 30)
          have X6 := hid (XB5.out.below be6)
          have B6 := hid (BB5.out.trans (be6.mono BB5.out.size))
          have H6 := hid (hh6.below be6)
          have E4b := hid (E4b.out.below be6)
          have GG := hid (hG6.below be6)
          have OO := hid (own_mono hO6 be6 (Nat.le_refl _))
          clear hG6 hO6
          have hs6 : (w6.alloc (.cells #[.int .u32 1, .slice (some ⟨g, 0, none⟩) 1 1] 30)).heap.size = w6.heap.size + 1 := by simp
          have nE6 := hid (show ¬ HT (w.heap.size + 1) w.heap.size (.slice none 0 0) w6.heap.size from fun hb => by have := (hh6.hlt _ hb).2; omega)
          have nE4b := nE4
          clear hh6 be6 XB5 BB5 E4 X5 B5 H5 hs5
          obtain ⟨w7, hw7⟩ : ∃ w7, w7 = w6.alloc (.cells #[.int .u32 1, .slice (some ⟨g, 0, none⟩) 1 1] 30) := ⟨_, rfl⟩
          rw [← hw7] at E6 X6 B6 H6 E4b hs6 GG OO
          have HW7 := hid hw7
          clear hw7
          have ba6 := (Below.refl w7.heap.size w7).alloc (Nat.le_refl _) (.cells #[.int .u32 bl] 23)
          have AA6 : Bx (w7.alloc (.cells #[.int .u32 bl] 23)) (w6.heap.size + 1) #[.int .u32 bl] 23 := by rw [← hs6]; exact Bx.new _ _ _
          have HA6 := H6.out.below ba6
          have XA6 := X6.out.below ba6
          have BA6 := hid (B6.out.trans (ba6.mono B6.out.size))
          have hlt6 := hid HA6.hlt
          have nab6 : ¬ HT (w.heap.size + 1) w.heap.size (.slice none 0 0) (w6.heap.size + 1) := fun hb => by have := (H6.out.hlt _ hb).2; omega
          have cs6 := hid (answer9 w.heap.size (w.heap.size + 1) w.heap.size (.slice none 0 0) [] [(nmOf l, .int .u32 x)] (seedOf sd) 0 13 (by omega) 29 rfl (some ⟨w6.heap.size + 1, 0, none⟩) 1 1 (by decide) w2.heap.size l hll _ XA6 HA6 (RndR bl) (enters_of Tryz.func50 (by kernel_rfl) rfl)
            (fun w1' q h1' hM hq => random50 (HA6.below h1') q (w6.heap.size + 1) bl hbl (AA6.below h1') nab6)
            (fun v r w2' w3' q a b hq hbx hg hR => hR))
          have E4ba := hid (E4b.out.below ba6)
          have E6a := hid (E6.out.below ba6)
          have GGa := hid (GG.out.below ba6)
          have OOa := hid (own_mono OO.out ba6 (Nat.le_refl _))
          clear HA6 AA6 ba6 nab6
          go_wp2_with fail
          have hw7 := HW7.out
          clear HW7
          subst hw7
          refine cs6.out.mono ?_
          clear cs6
          rintro e w8 ⟨v6, ao6, m6, cp6, rfl, hk6, hr6⟩
          have BB6 := hid (BA6.out.trans (hk6.below BA6.out.size (fun b hb => (hlt6.out b hb).1)))
          have XB6 := hid (hk6.box XA6 XA6.lt (fun hb => hne.out _ hb rfl))
          have E4bb := hid (hk6.box E4ba.out E4ba.out.lt nE4b.out)
          have E6b := hid (hk6.box E6a.out E6a.out.lt nE6.out)
          have GGb := hid (hk6.box GGa.out GGa.out.lt nGG.out)
          have OOb := hid (hk6.own OOa.out (fun b hb => ⟨(OOa.out.lt b hb).2, nOO.out b hb⟩))
          clear XA6 BA6 hk6 E4ba E6a GGa OOa
          obtain ⟨hrn, hv0, hv1⟩ := hr6
          simp only [Value.slice.injEq] at hrn
          obtain ⟨rfl, rfl, rfl⟩ := hrn
          have be8 := (Below.refl w8.heap.size w8).alloc (Nat.le_refl _) (.cells #[.int .u32 v6, .slice none 0 0] 30)
          have B8 := hid (BB6.out.trans (be8.mono BB6.out.size))
          have E8 := hid (Bx.new w8 #[.int .u32 v6, .slice none 0 0] 30)
          have E4c := hid (E4bb.out.below be8)
          have E6c := hid (E6b.out.below be8)
          have e4 : w8.cell? ⟨w4.heap.size, 0, none⟩ = some (.int .u32 1) := by simpa using E4bb.out.cell 0
          have e60 : w8.cell? ⟨w6.heap.size, 0, none⟩ = some (.int .u32 1) := by simpa using E6b.out.cell 0
          have l4 : w4.heap.size < w8.heap.size := E4bb.out.lt
          have l6 : w6.heap.size < w8.heap.size := E6b.out.lt
          have GGc := hid (GGb.out.below be8)
          have OOc := hid (own_mono OOb.out be8 (Nat.le_refl _))
          clear be8 BB6 XB6 E4bb E6b GGb OOb B6 H6 X6 E4b E6 nE4 nE4b nE6 hlt4 hlt5 hlt6 hs6 hne nGG nOO GG OO
          have hbz : ((0 < bl) = False ∧ True) ∨ ((0 < bl) = True ∧ (bl ≤ v6) = False) := by
            by_cases h9 : bl = 0
            · exact .inl ⟨eq_false (by omega), trivial⟩
            · exact .inr ⟨eq_true (by omega), eq_false (by have := hv1 (by omega); omega)⟩
          obtain ⟨gb, cb, hsh, -⟩ := own_shape OOc.out (by omega)
          simp only [Value.slice.injEq, true_and] at hsh
          obtain ⟨rfl, rfl⟩ := hsh
          have cn := hid (fun w' => named10 s w')
          cases hns : nmB s
          · rw [hns] at cn
            by_cases h2 : s.size < 200
            · have H200 := hid (show ((s.size : Int) < 200) = True from eq_true (by omega))
              clear h2
              rcases hbz with ⟨hz, -⟩ | ⟨hz1, hz2⟩
              · clear hns hv1 hv0
                go_wp2_with fail
                clear e4 e60 l4 l6
                generalize w8.alloc (.cells #[.int .u32 v6, .slice none 0 0] 30) = w9 at *
                have e4 : w9.cell? ⟨w4.heap.size, 0, none⟩ = some (.int .u32 1) := by simpa using E4c.out.cell 0
                have e60 : w9.cell? ⟨w6.heap.size, 0, none⟩ = some (.int .u32 1) := by simpa using E6c.out.cell 0
                have e61 : w9.cell? ⟨w6.heap.size, 1, none⟩ = some (.slice (some ⟨g, 0, none⟩) 1 1) := by simpa using E6c.out.cell 1
                have g0 : w9.cell? ⟨g, 0, none⟩ = some (.int .u32 240) := by simpa using GGc.out.cell 0
                have g1 : w9.cell? ⟨g, 1, none⟩ = some (.slice (some ⟨gb, 0, none⟩) 4 bc) := by simpa using GGc.out.cell 1
                have HO := hid (fun j (hj : j < 4) => show w9.cell? ⟨gb, j, none⟩ = some (.int .u8 ((le 4 x).getD j 0)) from by
                  rw [OOc.out.cellAt j (by omega), List.getElem?_map, List.getElem?_eq_getElem (show j < (le 4 x).length from hj)]
                  simp [List.getD, List.getElem?_eq_getElem (show j < (le 4 x).length from hj)])
                have lg := GGc.out.lt
                have l6 := E6c.out.lt
                have h200 := H200.out
                clear H200
                go_quiet ((go_at_call 10; exact Calls.quiet_of_same (cn.out _)))
                have e4' : (w9.drewN nq).cell? ⟨w4.heap.size, 0, none⟩ = some (.int .u32 1) := e4
                have e61' : (w9.drewN nq).cell? ⟨w6.heap.size, 1, none⟩ = some (.slice (some ⟨g, 0, none⟩) 1 1) := e61
                have g0' : (w9.drewN nq).cell? ⟨g, 0, none⟩ = some (.int .u32 240) := g0
                have g1' : (w9.drewN nq).cell? ⟨g, 1, none⟩ = some (.slice (some ⟨gb, 0, none⟩) 4 bc) := g1
                have HO' := hid (show ∀ j, j < 4 → (w9.drewN nq).cell? ⟨gb, j, none⟩ = some (.int .u8 ((le 4 x).getD j 0)) from HO.out)
                have lg' : g < (w9.drewN nq).heap.size := lg
                have l6' : w6.heap.size < (w9.drewN nq).heap.size := l6
                have B9 : Hid (Below w.heap.size w (w9.drewN nq)) := below_drewN' B8.out nq
                clear e4 e60 e61 g0 g1 HO lg l6 B8 E4c E6c E8 GGc OOc
                generalize w9.drewN nq = w10 at *
                go_wp2_with fail
                have c11 := hid (same11 4 bc 4 gb w10.heap.size (le 4 x) rfl (by omega) (w10.alloc (.cells #[.int .u8 (x % 256), .int .u8 (x / 256 % 256), .int .u8 (x / 65536 % 256), .int .u8 (x / 16777216)] 5))
                  (fun j hj => cell_on (HO'.out j hj) ((Below.refl _ _).alloc (Nat.le_refl _) _))
                  (fun j hj => (Bx.new w10 _ 5).cell j |>.trans (want4 x hx j hj)))
                refine c11.out.mono ?_
                rintro e w11 ⟨rfl, hb11⟩
                have B11 := hid (B9.out.trans (((Below.refl w10.heap.size w10).alloc (Nat.le_refl _) (.cells #[.int .u8 (x % 256), .int .u8 (x / 256 % 256), .int .u8 (x / 65536 % 256), .int .u8 (x / 16777216)] 5)).trans (hb11.mono (by simp)) |>.mono B9.out.size))
                clear c11 hb11
                go_wp2_with fail
                go_ret
                exact ⟨rfl, B11.out⟩

              · clear hns hv1 hv0
                go_wp2_with fail
                clear e4 e60 l4 l6
                generalize w8.alloc (.cells #[.int .u32 v6, .slice none 0 0] 30) = w9 at *
                have e4 : w9.cell? ⟨w4.heap.size, 0, none⟩ = some (.int .u32 1) := by simpa using E4c.out.cell 0
                have e60 : w9.cell? ⟨w6.heap.size, 0, none⟩ = some (.int .u32 1) := by simpa using E6c.out.cell 0
                have e61 : w9.cell? ⟨w6.heap.size, 1, none⟩ = some (.slice (some ⟨g, 0, none⟩) 1 1) := by simpa using E6c.out.cell 1
                have g0 : w9.cell? ⟨g, 0, none⟩ = some (.int .u32 240) := by simpa using GGc.out.cell 0
                have g1 : w9.cell? ⟨g, 1, none⟩ = some (.slice (some ⟨gb, 0, none⟩) 4 bc) := by simpa using GGc.out.cell 1
                have HO := hid (fun j (hj : j < 4) => show w9.cell? ⟨gb, j, none⟩ = some (.int .u8 ((le 4 x).getD j 0)) from by
                  rw [OOc.out.cellAt j (by omega), List.getElem?_map, List.getElem?_eq_getElem (show j < (le 4 x).length from hj)]
                  simp [List.getD, List.getElem?_eq_getElem (show j < (le 4 x).length from hj)])
                have lg := GGc.out.lt
                have l6 := E6c.out.lt
                have h200 := H200.out
                clear H200
                go_quiet ((go_at_call 10; exact Calls.quiet_of_same (cn.out _)))
                have e4' : (w9.drewN nq).cell? ⟨w4.heap.size, 0, none⟩ = some (.int .u32 1) := e4
                have e61' : (w9.drewN nq).cell? ⟨w6.heap.size, 1, none⟩ = some (.slice (some ⟨g, 0, none⟩) 1 1) := e61
                have g0' : (w9.drewN nq).cell? ⟨g, 0, none⟩ = some (.int .u32 240) := g0
                have g1' : (w9.drewN nq).cell? ⟨g, 1, none⟩ = some (.slice (some ⟨gb, 0, none⟩) 4 bc) := g1
                have HO' := hid (show ∀ j, j < 4 → (w9.drewN nq).cell? ⟨gb, j, none⟩ = some (.int .u8 ((le 4 x).getD j 0)) from HO.out)
                have lg' : g < (w9.drewN nq).heap.size := lg
                have l6' : w6.heap.size < (w9.drewN nq).heap.size := l6
                have B9 : Hid (Below w.heap.size w (w9.drewN nq)) := below_drewN' B8.out nq
                clear e4 e60 e61 g0 g1 HO lg l6 B8 E4c E6c E8 GGc OOc
                generalize w9.drewN nq = w10 at *
                go_wp2_with fail
                have c11 := hid (same11 4 bc 4 gb w10.heap.size (le 4 x) rfl (by omega) (w10.alloc (.cells #[.int .u8 (x % 256), .int .u8 (x / 256 % 256), .int .u8 (x / 65536 % 256), .int .u8 (x / 16777216)] 5))
                  (fun j hj => cell_on (HO'.out j hj) ((Below.refl _ _).alloc (Nat.le_refl _) _))
                  (fun j hj => (Bx.new w10 _ 5).cell j |>.trans (want4 x hx j hj)))
                refine c11.out.mono ?_
                rintro e w11 ⟨rfl, hb11⟩
                have B11 := hid (B9.out.trans (((Below.refl w10.heap.size w10).alloc (Nat.le_refl _) (.cells #[.int .u8 (x % 256), .int .u8 (x / 256 % 256), .int .u8 (x / 65536 % 256), .int .u8 (x / 16777216)] 5)).trans (hb11.mono (by simp)) |>.mono B9.out.size))
                clear c11 hb11
                go_wp2_with fail
                go_ret
                exact ⟨rfl, B11.out⟩

            · have H200 := hid (show ((s.size : Int) < 200) = False from eq_false (by omega))
              clear h2
              rcases hbz with ⟨hz, -⟩ | ⟨hz1, hz2⟩
              · clear hns hv1 hv0
                go_wp2_with fail
                clear e4 e60 l4 l6
                generalize w8.alloc (.cells #[.int .u32 v6, .slice none 0 0] 30) = w9 at *
                have e4 : w9.cell? ⟨w4.heap.size, 0, none⟩ = some (.int .u32 1) := by simpa using E4c.out.cell 0
                have e60 : w9.cell? ⟨w6.heap.size, 0, none⟩ = some (.int .u32 1) := by simpa using E6c.out.cell 0
                have e61 : w9.cell? ⟨w6.heap.size, 1, none⟩ = some (.slice (some ⟨g, 0, none⟩) 1 1) := by simpa using E6c.out.cell 1
                have g0 : w9.cell? ⟨g, 0, none⟩ = some (.int .u32 240) := by simpa using GGc.out.cell 0
                have g1 : w9.cell? ⟨g, 1, none⟩ = some (.slice (some ⟨gb, 0, none⟩) 4 bc) := by simpa using GGc.out.cell 1
                have HO := hid (fun j (hj : j < 4) => show w9.cell? ⟨gb, j, none⟩ = some (.int .u8 ((le 4 x).getD j 0)) from by
                  rw [OOc.out.cellAt j (by omega), List.getElem?_map, List.getElem?_eq_getElem (show j < (le 4 x).length from hj)]
                  simp [List.getD, List.getElem?_eq_getElem (show j < (le 4 x).length from hj)])
                have lg := GGc.out.lt
                have l6 := E6c.out.lt
                have h200 := H200.out
                clear H200
                go_quiet ((go_at_call 10; exact Calls.quiet_of_same (cn.out _)))
                have e4' : (w9.drewN nq).cell? ⟨w4.heap.size, 0, none⟩ = some (.int .u32 1) := e4
                have e61' : (w9.drewN nq).cell? ⟨w6.heap.size, 1, none⟩ = some (.slice (some ⟨g, 0, none⟩) 1 1) := e61
                have g0' : (w9.drewN nq).cell? ⟨g, 0, none⟩ = some (.int .u32 240) := g0
                have g1' : (w9.drewN nq).cell? ⟨g, 1, none⟩ = some (.slice (some ⟨gb, 0, none⟩) 4 bc) := g1
                have HO' := hid (show ∀ j, j < 4 → (w9.drewN nq).cell? ⟨gb, j, none⟩ = some (.int .u8 ((le 4 x).getD j 0)) from HO.out)
                have lg' : g < (w9.drewN nq).heap.size := lg
                have l6' : w6.heap.size < (w9.drewN nq).heap.size := l6
                have B9 : Hid (Below w.heap.size w (w9.drewN nq)) := below_drewN' B8.out nq
                clear e4 e60 e61 g0 g1 HO lg l6 B8 E4c E6c E8 GGc OOc
                generalize w9.drewN nq = w10 at *
                go_wp2_with fail
                have c11 := hid (same11 4 bc 4 gb w10.heap.size (le 4 x) rfl (by omega) (w10.alloc (.cells #[.int .u8 (x % 256), .int .u8 (x / 256 % 256), .int .u8 (x / 65536 % 256), .int .u8 (x / 16777216)] 5))
                  (fun j hj => cell_on (HO'.out j hj) ((Below.refl _ _).alloc (Nat.le_refl _) _))
                  (fun j hj => (Bx.new w10 _ 5).cell j |>.trans (want4 x hx j hj)))
                refine c11.out.mono ?_
                rintro e w11 ⟨rfl, hb11⟩
                have B11 := hid (B9.out.trans (((Below.refl w10.heap.size w10).alloc (Nat.le_refl _) (.cells #[.int .u8 (x % 256), .int .u8 (x / 256 % 256), .int .u8 (x / 65536 % 256), .int .u8 (x / 16777216)] 5)).trans (hb11.mono (by simp)) |>.mono B9.out.size))
                clear c11 hb11
                go_wp2_with fail
                go_ret
                exact ⟨rfl, B11.out⟩

              · clear hns hv1 hv0
                go_wp2_with fail
                clear e4 e60 l4 l6
                generalize w8.alloc (.cells #[.int .u32 v6, .slice none 0 0] 30) = w9 at *
                have e4 : w9.cell? ⟨w4.heap.size, 0, none⟩ = some (.int .u32 1) := by simpa using E4c.out.cell 0
                have e60 : w9.cell? ⟨w6.heap.size, 0, none⟩ = some (.int .u32 1) := by simpa using E6c.out.cell 0
                have e61 : w9.cell? ⟨w6.heap.size, 1, none⟩ = some (.slice (some ⟨g, 0, none⟩) 1 1) := by simpa using E6c.out.cell 1
                have g0 : w9.cell? ⟨g, 0, none⟩ = some (.int .u32 240) := by simpa using GGc.out.cell 0
                have g1 : w9.cell? ⟨g, 1, none⟩ = some (.slice (some ⟨gb, 0, none⟩) 4 bc) := by simpa using GGc.out.cell 1
                have HO := hid (fun j (hj : j < 4) => show w9.cell? ⟨gb, j, none⟩ = some (.int .u8 ((le 4 x).getD j 0)) from by
                  rw [OOc.out.cellAt j (by omega), List.getElem?_map, List.getElem?_eq_getElem (show j < (le 4 x).length from hj)]
                  simp [List.getD, List.getElem?_eq_getElem (show j < (le 4 x).length from hj)])
                have lg := GGc.out.lt
                have l6 := E6c.out.lt
                have h200 := H200.out
                clear H200
                go_quiet ((go_at_call 10; exact Calls.quiet_of_same (cn.out _)))
                have e4' : (w9.drewN nq).cell? ⟨w4.heap.size, 0, none⟩ = some (.int .u32 1) := e4
                have e61' : (w9.drewN nq).cell? ⟨w6.heap.size, 1, none⟩ = some (.slice (some ⟨g, 0, none⟩) 1 1) := e61
                have g0' : (w9.drewN nq).cell? ⟨g, 0, none⟩ = some (.int .u32 240) := g0
                have g1' : (w9.drewN nq).cell? ⟨g, 1, none⟩ = some (.slice (some ⟨gb, 0, none⟩) 4 bc) := g1
                have HO' := hid (show ∀ j, j < 4 → (w9.drewN nq).cell? ⟨gb, j, none⟩ = some (.int .u8 ((le 4 x).getD j 0)) from HO.out)
                have lg' : g < (w9.drewN nq).heap.size := lg
                have l6' : w6.heap.size < (w9.drewN nq).heap.size := l6
                have B9 : Hid (Below w.heap.size w (w9.drewN nq)) := below_drewN' B8.out nq
                clear e4 e60 e61 g0 g1 HO lg l6 B8 E4c E6c E8 GGc OOc
                generalize w9.drewN nq = w10 at *
                go_wp2_with fail
                have c11 := hid (same11 4 bc 4 gb w10.heap.size (le 4 x) rfl (by omega) (w10.alloc (.cells #[.int .u8 (x % 256), .int .u8 (x / 256 % 256), .int .u8 (x / 65536 % 256), .int .u8 (x / 16777216)] 5))
                  (fun j hj => cell_on (HO'.out j hj) ((Below.refl _ _).alloc (Nat.le_refl _) _))
                  (fun j hj => (Bx.new w10 _ 5).cell j |>.trans (want4 x hx j hj)))
                refine c11.out.mono ?_
                rintro e w11 ⟨rfl, hb11⟩
                have B11 := hid (B9.out.trans (((Below.refl w10.heap.size w10).alloc (Nat.le_refl _) (.cells #[.int .u8 (x % 256), .int .u8 (x / 256 % 256), .int .u8 (x / 65536 % 256), .int .u8 (x / 16777216)] 5)).trans (hb11.mono (by simp)) |>.mono B9.out.size))
                clear c11 hb11
                go_wp2_with fail
                go_ret
                exact ⟨rfl, B11.out⟩

          · rw [hns] at cn
            rcases hbz with ⟨hz, -⟩ | ⟨hz1, hz2⟩
            · clear hns hv1 hv0
              go_wp2_with fail
              clear e4 e60 l4 l6
              generalize w8.alloc (.cells #[.int .u32 v6, .slice none 0 0] 30) = w9 at *
              have e4 : w9.cell? ⟨w4.heap.size, 0, none⟩ = some (.int .u32 1) := by simpa using E4c.out.cell 0
              have e60 : w9.cell? ⟨w6.heap.size, 0, none⟩ = some (.int .u32 1) := by simpa using E6c.out.cell 0
              have e61 : w9.cell? ⟨w6.heap.size, 1, none⟩ = some (.slice (some ⟨g, 0, none⟩) 1 1) := by simpa using E6c.out.cell 1
              have g0 : w9.cell? ⟨g, 0, none⟩ = some (.int .u32 240) := by simpa using GGc.out.cell 0
              have g1 : w9.cell? ⟨g, 1, none⟩ = some (.slice (some ⟨gb, 0, none⟩) 4 bc) := by simpa using GGc.out.cell 1
              have HO := hid (fun j (hj : j < 4) => show w9.cell? ⟨gb, j, none⟩ = some (.int .u8 ((le 4 x).getD j 0)) from by
                rw [OOc.out.cellAt j (by omega), List.getElem?_map, List.getElem?_eq_getElem (show j < (le 4 x).length from hj)]
                simp [List.getD, List.getElem?_eq_getElem (show j < (le 4 x).length from hj)])
              have lg := GGc.out.lt
              have l6 := E6c.out.lt
              go_quiet ((go_at_call 10; exact Calls.quiet_of_same (cn.out _)))
              have e4' : (w9.drewN nq).cell? ⟨w4.heap.size, 0, none⟩ = some (.int .u32 1) := e4
              have e61' : (w9.drewN nq).cell? ⟨w6.heap.size, 1, none⟩ = some (.slice (some ⟨g, 0, none⟩) 1 1) := e61
              have g0' : (w9.drewN nq).cell? ⟨g, 0, none⟩ = some (.int .u32 240) := g0
              have g1' : (w9.drewN nq).cell? ⟨g, 1, none⟩ = some (.slice (some ⟨gb, 0, none⟩) 4 bc) := g1
              have HO' := hid (show ∀ j, j < 4 → (w9.drewN nq).cell? ⟨gb, j, none⟩ = some (.int .u8 ((le 4 x).getD j 0)) from HO.out)
              have lg' : g < (w9.drewN nq).heap.size := lg
              have l6' : w6.heap.size < (w9.drewN nq).heap.size := l6
              have B9 : Hid (Below w.heap.size w (w9.drewN nq)) := below_drewN' B8.out nq
              clear e4 e60 e61 g0 g1 HO lg l6 B8 E4c E6c E8 GGc OOc
              generalize w9.drewN nq = w10 at *
              go_wp2_with fail
              have c11 := hid (same11 4 bc 4 gb w10.heap.size (le 4 x) rfl (by omega) (w10.alloc (.cells #[.int .u8 (x % 256), .int .u8 (x / 256 % 256), .int .u8 (x / 65536 % 256), .int .u8 (x / 16777216)] 5))
                (fun j hj => cell_on (HO'.out j hj) ((Below.refl _ _).alloc (Nat.le_refl _) _))
                (fun j hj => (Bx.new w10 _ 5).cell j |>.trans (want4 x hx j hj)))
              refine c11.out.mono ?_
              rintro e w11 ⟨rfl, hb11⟩
              have B11 := hid (B9.out.trans (((Below.refl w10.heap.size w10).alloc (Nat.le_refl _) (.cells #[.int .u8 (x % 256), .int .u8 (x / 256 % 256), .int .u8 (x / 65536 % 256), .int .u8 (x / 16777216)] 5)).trans (hb11.mono (by simp)) |>.mono B9.out.size))
              clear c11 hb11
              go_wp2_with fail
              go_ret
              exact ⟨rfl, B11.out⟩

            · clear hns hv1 hv0
              go_wp2_with fail
              clear e4 e60 l4 l6
              generalize w8.alloc (.cells #[.int .u32 v6, .slice none 0 0] 30) = w9 at *
              have e4 : w9.cell? ⟨w4.heap.size, 0, none⟩ = some (.int .u32 1) := by simpa using E4c.out.cell 0
              have e60 : w9.cell? ⟨w6.heap.size, 0, none⟩ = some (.int .u32 1) := by simpa using E6c.out.cell 0
              have e61 : w9.cell? ⟨w6.heap.size, 1, none⟩ = some (.slice (some ⟨g, 0, none⟩) 1 1) := by simpa using E6c.out.cell 1
              have g0 : w9.cell? ⟨g, 0, none⟩ = some (.int .u32 240) := by simpa using GGc.out.cell 0
              have g1 : w9.cell? ⟨g, 1, none⟩ = some (.slice (some ⟨gb, 0, none⟩) 4 bc) := by simpa using GGc.out.cell 1
              have HO := hid (fun j (hj : j < 4) => show w9.cell? ⟨gb, j, none⟩ = some (.int .u8 ((le 4 x).getD j 0)) from by
                rw [OOc.out.cellAt j (by omega), List.getElem?_map, List.getElem?_eq_getElem (show j < (le 4 x).length from hj)]
                simp [List.getD, List.getElem?_eq_getElem (show j < (le 4 x).length from hj)])
              have lg := GGc.out.lt
              have l6 := E6c.out.lt
              go_quiet ((go_at_call 10; exact Calls.quiet_of_same (cn.out _)))
              have e4' : (w9.drewN nq).cell? ⟨w4.heap.size, 0, none⟩ = some (.int .u32 1) := e4
              have e61' : (w9.drewN nq).cell? ⟨w6.heap.size, 1, none⟩ = some (.slice (some ⟨g, 0, none⟩) 1 1) := e61
              have g0' : (w9.drewN nq).cell? ⟨g, 0, none⟩ = some (.int .u32 240) := g0
              have g1' : (w9.drewN nq).cell? ⟨g, 1, none⟩ = some (.slice (some ⟨gb, 0, none⟩) 4 bc) := g1
              have HO' := hid (show ∀ j, j < 4 → (w9.drewN nq).cell? ⟨gb, j, none⟩ = some (.int .u8 ((le 4 x).getD j 0)) from HO.out)
              have lg' : g < (w9.drewN nq).heap.size := lg
              have l6' : w6.heap.size < (w9.drewN nq).heap.size := l6
              have B9 : Hid (Below w.heap.size w (w9.drewN nq)) := below_drewN' B8.out nq
              clear e4 e60 e61 g0 g1 HO lg l6 B8 E4c E6c E8 GGc OOc
              generalize w9.drewN nq = w10 at *
              go_wp2_with fail
              have c11 := hid (same11 4 bc 4 gb w10.heap.size (le 4 x) rfl (by omega) (w10.alloc (.cells #[.int .u8 (x % 256), .int .u8 (x / 256 % 256), .int .u8 (x / 65536 % 256), .int .u8 (x / 16777216)] 5))
                (fun j hj => cell_on (HO'.out j hj) ((Below.refl _ _).alloc (Nat.le_refl _) _))
                (fun j hj => (Bx.new w10 _ 5).cell j |>.trans (want4 x hx j hj)))
              refine c11.out.mono ?_
              rintro e w11 ⟨rfl, hb11⟩
              have B11 := hid (B9.out.trans (((Below.refl w10.heap.size w10).alloc (Nat.le_refl _) (.cells #[.int .u8 (x % 256), .int .u8 (x / 256 % 256), .int .u8 (x / 65536 % 256), .int .u8 (x / 16777216)] 5)).trans (hb11.mono (by simp)) |>.mono B9.out.size))
              clear c11 hb11
              go_wp2_with fail
              go_ret
              exact ⟨rfl, B11.out⟩


    · have e1 : ((k : Int) < (s.size : Int)) = False := eq_false (by omega)
      obtain ⟨l, hl⟩ : ∃ l, l = padK s k := ⟨_, rfl⟩
      have hll : l.length = 256 := by rw [hl]; exact padK_len s k hk (by omega)
      have hN : Hid (nmB s = true → nmB (nmOf l) = true) := by
        intro h9
        have h8 := h9
        unfold nmB at h8
        simp only [Bool.and_eq_true, decide_eq_true_eq] at h8
        have hks : k = s.size := by omega
        have e : nmOf l = s := by
          unfold nmOf
          rw [hl, hks, txt_pad s (by omega) h8.2.2]
        rw [e]
        exact h9
      have X4 : Hid (Bx wr w2.heap.size (bv l).toArray 5) := by rw [hl]; exact hX
      have H4 : Hid (Ho wr w.heap.size (w.heap.size + 1) (.slice none 0 0) [] w.heap.size [] (seedOf sd) 0) := H3.out.kpt (T := fun b => b = w2.heap.size) (Kpt.gr hG.out (Nat.le_refl _) fun k e => by simp only [Option.some.injEq] at e; exact .inl e.symm) hne.out
      have B4 : Hid (Below w.heap.size w wr) := ⟨B3.out.os ▸ hG.out.os, B3.out.tape ▸ hG.out.tape, B3.out.output ▸ hG.out.output, Nat.le_trans B3.out.size hG.out.size, fun b hb => (hG.out.block b (by have := B3.out.size; omega) (fun e => by simp only [Option.some.injEq] at e; have := B2.out.size; omega)).trans (B3.out.block b hb)⟩
      clear hX hG hl X3 H3
      have ba4 := (Below.refl wr.heap.size wr).alloc (Nat.le_refl _) (.cells #[.int .u32 0, .int .u32 x] 23)
      have AA4 : Bx (wr.alloc (.cells #[.int .u32 0, .int .u32 x] 23)) (wr.heap.size) #[.int .u32 0, .int .u32 x] 23 := Bx.new _ _ _
      have HA4 := H4.out.below ba4
      have XA4 := X4.out.below ba4
      have BA4 := hid (B4.out.trans (ba4.mono B4.out.size))
      have hlt4 := hid HA4.hlt
      have nab4 : ¬ HT (w.heap.size + 1) w.heap.size (.slice none 0 0) (wr.heap.size) := fun hb => by have := (H4.out.hlt _ hb).2; omega
      have cs4 := hid (answer9 w.heap.size (w.heap.size + 1) w.heap.size (.slice none 0 0) [] [] (seedOf sd) 0 11 (by omega) 27 rfl (some ⟨wr.heap.size, 0, none⟩) 2 2 (by decide) w2.heap.size l hll _ XA4 HA4 (SetR w.heap.size (w.heap.size + 1) w.heap.size (.slice none 0 0) [] (seedOf sd) 0 (nmOf l) x) (enters_of Tryz.func48 (by kernel_rfl) rfl)
        (fun w1' q h1' hM hq => set48 (HA4.below h1') q _ (wr.heap.size) l hM x (AA4.below h1') nab4)
        (fun v r w2' w3' q a b hq hbx hg hR => hR.keep hbx hg))
      clear HA4 AA4 ba4 nab4
      go_wp2_with fail
      refine cs4.out.mono ?_
      clear cs4
      rintro e w4 ⟨v4, ao4, m4, cp4, rfl, hk4, hr4⟩
      have BB4 := hid (BA4.out.trans (hk4.below BA4.out.size (fun b hb => (hlt4.out b hb).1)))
      have XB4 := hid (hk4.box XA4 XA4.lt (fun hb => hne.out _ hb rfl))
      clear XA4 BA4 hk4
      obtain ⟨hrn, hr4⟩ := hr4
      simp only [Value.slice.injEq] at hrn
      obtain ⟨rfl, rfl, rfl⟩ := hrn
      have be4 := (Below.refl w4.heap.size w4).alloc (Nat.le_refl _) (.cells #[.int .u32 v4, .slice none 0 0] 30)
      have E4 := hid (Bx.new w4 #[.int .u32 v4, .slice none 0 0] 30)
      have X5 := hid (XB4.out.below be4)
      have B5 := hid (BB4.out.trans (be4.mono BB4.out.size))
      have hs5 : (w4.alloc (.cells #[.int .u32 v4, .slice none 0 0] 30)).heap.size = w4.heap.size + 1 := by simp
      cases hnb : nmB (nmOf l)
      · rw [if_neg (by simp [hnb])] at hr4
        obtain ⟨rfl, hh5⟩ := hr4
        have H5 := hid (hh5.below be4)
        have hnb := hid hnb
        have nE4 := hid (show ¬ HT (w.heap.size + 1) w.heap.size (.slice none 0 0) w4.heap.size from fun hb => by have := (hh5.hlt _ hb).2; omega)
        clear hh5 be4 H4 X4 B4 XB4 BB4
        obtain ⟨w5, hw5⟩ : ∃ w5, w5 = w4.alloc (.cells #[.int .u32 0, .slice none 0 0] 30) := ⟨_, rfl⟩
        rw [← hw5] at E4 X5 B5 H5 hs5
        have HW5 := hid hw5
        clear hw5
        have ba5 := (Below.refl w5.heap.size w5).alloc (Nat.le_refl _) (.cells #[.int .u32 0, .int .u32 240] 23)
        have AA5 : Bx (w5.alloc (.cells #[.int .u32 0, .int .u32 240] 23)) (w4.heap.size + 1) #[.int .u32 0, .int .u32 240] 23 := by rw [← hs5]; exact Bx.new _ _ _
        have HA5 := H5.out.below ba5
        have XA5 := X5.out.below ba5
        have BA5 := hid (B5.out.trans (ba5.mono B5.out.size))
        have hlt5 := hid HA5.hlt
        have nab5 : ¬ HT (w.heap.size + 1) w.heap.size (.slice none 0 0) (w4.heap.size + 1) := fun hb => by have := (H5.out.hlt _ hb).2; omega
        have cs5 := hid (answer9 w.heap.size (w.heap.size + 1) w.heap.size (.slice none 0 0) [] [] (seedOf sd) 0 10 (by omega) 26 rfl (some ⟨w4.heap.size + 1, 0, none⟩) 2 2 (by decide) w2.heap.size l hll _ XA5 HA5 (Get0 w.heap.size (w.heap.size + 1) w.heap.size (.slice none 0 0) [] (seedOf sd) 0) (enters_of Tryz.func47 (by kernel_rfl) rfl)
          (fun w1' q h1' hM hq => get47_nil q _ (w4.heap.size + 1) l x hx 240 (HA5.below h1') hM (AA5.below h1') nab5)
          (fun v r w2' w3' q a b hq hbx hg hR => ⟨hR.1, hR.2.1, hR.2.2.keep30 hbx hg⟩))
        have E4a := hid (E4.out.below ba5)
        clear HA5 AA5 ba5 nab5
        go_wp2_with fail
        have hw5 := HW5.out
        clear HW5
        subst hw5
        refine cs5.out.mono ?_
        clear cs5
        rintro e w6 ⟨v5, ao5, m5, cp5, rfl, hk5, hr5⟩
        have BB5 := hid (BA5.out.trans (hk5.below BA5.out.size (fun b hb => (hlt5.out b hb).1)))
        have XB5 := hid (hk5.box XA5 XA5.lt (fun hb => hne.out _ hb rfl))
        have E4b := hid (hk5.box E4a.out E4a.out.lt nE4.out)
        clear XA5 BA5 hk5 E4a
        obtain ⟨rfl, hrn, hh6⟩ := hr5
        simp only [Value.slice.injEq] at hrn
        obtain ⟨rfl, rfl, rfl⟩ := hrn
        have be6 := (Below.refl w6.heap.size w6).alloc (Nat.le_refl _) (.cells #[.int .u32 0, .slice none 0 0] 30)
        have E6 := hid (Bx.new w6 #[.int .u32 0, .slice none 0 0] 30)
        have X6 := hid (XB5.out.below be6)
        have B6 := hid (BB5.out.trans (be6.mono BB5.out.size))
        have H6 := hid (hh6.below be6)
        have E4b := hid (E4b.out.below be6)
        have hs6 : (w6.alloc (.cells #[.int .u32 0, .slice none 0 0] 30)).heap.size = w6.heap.size + 1 := by simp
        have nE6 := hid (show ¬ HT (w.heap.size + 1) w.heap.size (.slice none 0 0) w6.heap.size from fun hb => by have := (hh6.hlt _ hb).2; omega)
        have nE4b := nE4
        clear hh6 be6 XB5 BB5 E4 X5 B5 H5 hs5
        obtain ⟨w7, hw7⟩ : ∃ w7, w7 = w6.alloc (.cells #[.int .u32 0, .slice none 0 0] 30) := ⟨_, rfl⟩
        rw [← hw7] at E6 X6 B6 H6 E4b hs6
        have HW7 := hid hw7
        clear hw7
        have ba6 := (Below.refl w7.heap.size w7).alloc (Nat.le_refl _) (.cells #[.int .u32 bl] 23)
        have AA6 : Bx (w7.alloc (.cells #[.int .u32 bl] 23)) (w6.heap.size + 1) #[.int .u32 bl] 23 := by rw [← hs6]; exact Bx.new _ _ _
        have HA6 := H6.out.below ba6
        have XA6 := X6.out.below ba6
        have BA6 := hid (B6.out.trans (ba6.mono B6.out.size))
        have hlt6 := hid HA6.hlt
        have nab6 : ¬ HT (w.heap.size + 1) w.heap.size (.slice none 0 0) (w6.heap.size + 1) := fun hb => by have := (H6.out.hlt _ hb).2; omega
        have cs6 := hid (answer9 w.heap.size (w.heap.size + 1) w.heap.size (.slice none 0 0) [] [] (seedOf sd) 0 13 (by omega) 29 rfl (some ⟨w6.heap.size + 1, 0, none⟩) 1 1 (by decide) w2.heap.size l hll _ XA6 HA6 (RndR bl) (enters_of Tryz.func50 (by kernel_rfl) rfl)
          (fun w1' q h1' hM hq => random50 (HA6.below h1') q (w6.heap.size + 1) bl hbl (AA6.below h1') nab6)
          (fun v r w2' w3' q a b hq hbx hg hR => hR))
        have E4ba := hid (E4b.out.below ba6)
        have E6a := hid (E6.out.below ba6)
        clear HA6 AA6 ba6 nab6
        go_wp2_with fail
        have hw7 := HW7.out
        clear HW7
        subst hw7
        refine cs6.out.mono ?_
        clear cs6
        rintro e w8 ⟨v6, ao6, m6, cp6, rfl, hk6, hr6⟩
        have BB6 := hid (BA6.out.trans (hk6.below BA6.out.size (fun b hb => (hlt6.out b hb).1)))
        have XB6 := hid (hk6.box XA6 XA6.lt (fun hb => hne.out _ hb rfl))
        have E4bb := hid (hk6.box E4ba.out E4ba.out.lt nE4b.out)
        have E6b := hid (hk6.box E6a.out E6a.out.lt nE6.out)
        clear XA6 BA6 hk6 E4ba E6a
        obtain ⟨hrn, hv0, hv1⟩ := hr6
        simp only [Value.slice.injEq] at hrn
        obtain ⟨rfl, rfl, rfl⟩ := hrn
        have be8 := (Below.refl w8.heap.size w8).alloc (Nat.le_refl _) (.cells #[.int .u32 v6, .slice none 0 0] 30)
        have B8 := hid (BB6.out.trans (be8.mono BB6.out.size))
        have E8 := hid (Bx.new w8 #[.int .u32 v6, .slice none 0 0] 30)
        have E4c := hid (E4bb.out.below be8)
        have E6c := hid (E6b.out.below be8)
        have e4 : w8.cell? ⟨w4.heap.size, 0, none⟩ = some (.int .u32 0) := by simpa using E4bb.out.cell 0
        have e60 : w8.cell? ⟨w6.heap.size, 0, none⟩ = some (.int .u32 0) := by simpa using E6b.out.cell 0
        have l4 : w4.heap.size < w8.heap.size := E4bb.out.lt
        have l6 : w6.heap.size < w8.heap.size := E6b.out.lt
        clear be8 BB6 XB6 E4bb E6b B6 H6 X6 E4b E6 nE4 nE4b nE6 hlt4 hlt5 hlt6 hs6 hne
        have hbz : ((0 < bl) = False ∧ True) ∨ ((0 < bl) = True ∧ (bl ≤ v6) = False) := by
          by_cases h9 : bl = 0
          · exact .inl ⟨eq_false (by omega), trivial⟩
          · exact .inr ⟨eq_true (by omega), eq_false (by have := hv1 (by omega); omega)⟩
        have hns : nmB s = false := by
          cases h9 : nmB s
          · rfl
          · exact absurd (hN.out h9) (by rw [hnb.out]; decide)
        have cn := hid (fun w' => named10 s w')
        rw [hns] at cn
        clear hns
        rcases hbz with ⟨hz, -⟩ | ⟨hz1, hz2⟩
        · clear hv1 hv0
          go_wp2_with fail
          clear e4 e60 l4 l6
          generalize w8.alloc (.cells #[.int .u32 v6, .slice none 0 0] 30) = w9 at *
          have e4 : w9.cell? ⟨w4.heap.size, 0, none⟩ = some (.int .u32 0) := by simpa using E4c.out.cell 0
          have e60 : w9.cell? ⟨w6.heap.size, 0, none⟩ = some (.int .u32 0) := by simpa using E6c.out.cell 0
          have e61 : w9.cell? ⟨w6.heap.size, 1, none⟩ = some (.slice none 0 0) := by simpa using E6c.out.cell 1
          go_quiet ((go_at_call 10; exact Calls.quiet_of_same (cn.out _)))
          go_wp2_with fail
          go_ret
          exact ⟨rfl, below_drewN' B8.out nq⟩

        · go_wp2_with fail
          clear e4 e60 l4 l6
          generalize w8.alloc (.cells #[.int .u32 v6, .slice none 0 0] 30) = w9 at *
          have e4 : w9.cell? ⟨w4.heap.size, 0, none⟩ = some (.int .u32 0) := by simpa using E4c.out.cell 0
          have e60 : w9.cell? ⟨w6.heap.size, 0, none⟩ = some (.int .u32 0) := by simpa using E6c.out.cell 0
          have e61 : w9.cell? ⟨w6.heap.size, 1, none⟩ = some (.slice none 0 0) := by simpa using E6c.out.cell 1
          go_quiet ((go_at_call 10; exact Calls.quiet_of_same (cn.out _)))
          go_wp2_with fail
          go_ret
          exact ⟨rfl, below_drewN' B8.out nq⟩

      · rw [if_pos hnb] at hr4
        obtain ⟨rfl, hh5⟩ := hr4
        have H5 := hid (hh5.below be4)
        have hnb := hid hnb
        have nE4 := hid (show ¬ HT (w.heap.size + 1) w.heap.size (.slice none 0 0) w4.heap.size from fun hb => by have := (hh5.hlt _ hb).2; omega)
        clear hh5 be4 H4 X4 B4 XB4 BB4
        obtain ⟨w5, hw5⟩ : ∃ w5, w5 = w4.alloc (.cells #[.int .u32 1, .slice none 0 0] 30) := ⟨_, rfl⟩
        rw [← hw5] at E4 X5 B5 H5 hs5
        have HW5 := hid hw5
        clear hw5
        have ba5 := (Below.refl w5.heap.size w5).alloc (Nat.le_refl _) (.cells #[.int .u32 0, .int .u32 240] 23)
        have AA5 : Bx (w5.alloc (.cells #[.int .u32 0, .int .u32 240] 23)) (w4.heap.size + 1) #[.int .u32 0, .int .u32 240] 23 := by rw [← hs5]; exact Bx.new _ _ _
        have HA5 := H5.out.below ba5
        have XA5 := X5.out.below ba5
        have BA5 := hid (B5.out.trans (ba5.mono B5.out.size))
        have hlt5 := hid HA5.hlt
        have nab5 : ¬ HT (w.heap.size + 1) w.heap.size (.slice none 0 0) (w4.heap.size + 1) := fun hb => by have := (H5.out.hlt _ hb).2; omega
        have cs5 := hid (answer9 w.heap.size (w.heap.size + 1) w.heap.size (.slice none 0 0) [] [(nmOf l, .int .u32 x)] (seedOf sd) 0 10 (by omega) 26 rfl (some ⟨w4.heap.size + 1, 0, none⟩) 2 2 (by decide) w2.heap.size l hll _ XA5 HA5 (GetR w.heap.size (w.heap.size + 1) w.heap.size (.slice none 0 0) [] (seedOf sd) 0 (nmOf l) x 240) (enters_of Tryz.func47 (by kernel_rfl) rfl)
          (fun w1' q h1' hM hq => get47_one q _ (w4.heap.size + 1) l x hx 240 (HA5.below h1') hM (AA5.below h1') nab5)
          (fun v r w2' w3' q a b hq hbx hg hR => hR.keep hbx hg))
        have E4a := hid (E4.out.below ba5)
        clear HA5 AA5 ba5 nab5
        go_wp2_with fail
        have hw5 := HW5.out
        clear HW5
        subst hw5
        refine cs5.out.mono ?_
        clear cs5
        rintro e w6 ⟨v5, ao5, m5, cp5, rfl, hk5, hr5⟩
        have BB5 := hid (BA5.out.trans (hk5.below BA5.out.size (fun b hb => (hlt5.out b hb).1)))
        have XB5 := hid (hk5.box XA5 XA5.lt (fun hb => hne.out _ hb rfl))
        have E4b := hid (hk5.box E4a.out E4a.out.lt nE4.out)
        clear XA5 BA5 hk5 E4a
        obtain ⟨rfl, hh6, g, bo, bc, hrn, hG6, hO6⟩ := hr5
        simp only [Value.slice.injEq] at hrn
        obtain ⟨rfl, rfl, rfl⟩ := hrn
        have nGG := hid (show ¬ HT (w.heap.size + 1) w.heap.size (.slice none 0 0) g from fun hb => by
          rcases hb with hb | hb | hb
          · have h1 := hh6.bx
            unfold Bx at h1 hG6
            rw [← hb, hG6] at h1
            simp at h1
          · obtain ⟨es, c, h1, -⟩ := hh6.mp
            unfold Bx at hG6
            rw [← hb, hG6] at h1
            cases h1
          · cases hb)
        have nOO := hid (show ∀ b, (Value.slice bo 4 bc).ownBlock = some b → ¬ HT (w.heap.size + 1) w.heap.size (.slice none 0 0) b from fun b hb0 hb => by
          rcases hb with hb | hb | hb
          · exact row_ne_box hO6 hh6.bx (by decide) (hb ▸ hb0)
          · obtain ⟨es, c, h1, -⟩ := hh6.mp
            rcases hO6.2 with ⟨h9, -⟩ | ⟨g', cap', cur, h9, -, hh, -⟩
            · rw [h9] at hb0; cases hb0
            · rw [h9] at hb0
              simp only [Value.ownBlock, Option.some.injEq] at hb0
              rw [hb0, hb, h1] at hh
              cases hh
          · cases hb)
        have be6 := (Below.refl w6.heap.size w6).alloc (Nat.le_refl _) (.cells #[.int .u32 1, .slice (some ⟨g, 0, none⟩) 1 1] 30)
        have E6 := hid (Bx.new w6 #[.int .u32 1, .slice (some ⟨g, 0, none⟩) 1 1] 30)
        have X6 := hid (XB5.out.below be6)
        have B6 := hid (BB5.out.trans (be6.mono BB5.out.size))
        have H6 := hid (hh6.below be6)
        have E4b := hid (E4b.out.below be6)
        have GG := hid (hG6.below be6)
        have OO := hid (own_mono hO6 be6 (Nat.le_refl _))
        clear hG6 hO6
        have hs6 : (w6.alloc (.cells #[.int .u32 1, .slice (some ⟨g, 0, none⟩) 1 1] 30)).heap.size = w6.heap.size + 1 := by simp
        have nE6 := hid (show ¬ HT (w.heap.size + 1) w.heap.size (.slice none 0 0) w6.heap.size from fun hb => by have := (hh6.hlt _ hb).2; omega)
        have nE4b := nE4
        clear hh6 be6 XB5 BB5 E4 X5 B5 H5 hs5
        obtain ⟨w7, hw7⟩ : ∃ w7, w7 = w6.alloc (.cells #[.int .u32 1, .slice (some ⟨g, 0, none⟩) 1 1] 30) := ⟨_, rfl⟩
        rw [← hw7] at E6 X6 B6 H6 E4b hs6 GG OO
        have HW7 := hid hw7
        clear hw7
        have ba6 := (Below.refl w7.heap.size w7).alloc (Nat.le_refl _) (.cells #[.int .u32 bl] 23)
        have AA6 : Bx (w7.alloc (.cells #[.int .u32 bl] 23)) (w6.heap.size + 1) #[.int .u32 bl] 23 := by rw [← hs6]; exact Bx.new _ _ _
        have HA6 := H6.out.below ba6
        have XA6 := X6.out.below ba6
        have BA6 := hid (B6.out.trans (ba6.mono B6.out.size))
        have hlt6 := hid HA6.hlt
        have nab6 : ¬ HT (w.heap.size + 1) w.heap.size (.slice none 0 0) (w6.heap.size + 1) := fun hb => by have := (H6.out.hlt _ hb).2; omega
        have cs6 := hid (answer9 w.heap.size (w.heap.size + 1) w.heap.size (.slice none 0 0) [] [(nmOf l, .int .u32 x)] (seedOf sd) 0 13 (by omega) 29 rfl (some ⟨w6.heap.size + 1, 0, none⟩) 1 1 (by decide) w2.heap.size l hll _ XA6 HA6 (RndR bl) (enters_of Tryz.func50 (by kernel_rfl) rfl)
          (fun w1' q h1' hM hq => random50 (HA6.below h1') q (w6.heap.size + 1) bl hbl (AA6.below h1') nab6)
          (fun v r w2' w3' q a b hq hbx hg hR => hR))
        have E4ba := hid (E4b.out.below ba6)
        have E6a := hid (E6.out.below ba6)
        have GGa := hid (GG.out.below ba6)
        have OOa := hid (own_mono OO.out ba6 (Nat.le_refl _))
        clear HA6 AA6 ba6 nab6
        go_wp2_with fail
        have hw7 := HW7.out
        clear HW7
        subst hw7
        refine cs6.out.mono ?_
        clear cs6
        rintro e w8 ⟨v6, ao6, m6, cp6, rfl, hk6, hr6⟩
        have BB6 := hid (BA6.out.trans (hk6.below BA6.out.size (fun b hb => (hlt6.out b hb).1)))
        have XB6 := hid (hk6.box XA6 XA6.lt (fun hb => hne.out _ hb rfl))
        have E4bb := hid (hk6.box E4ba.out E4ba.out.lt nE4b.out)
        have E6b := hid (hk6.box E6a.out E6a.out.lt nE6.out)
        have GGb := hid (hk6.box GGa.out GGa.out.lt nGG.out)
        have OOb := hid (hk6.own OOa.out (fun b hb => ⟨(OOa.out.lt b hb).2, nOO.out b hb⟩))
        clear XA6 BA6 hk6 E4ba E6a GGa OOa
        obtain ⟨hrn, hv0, hv1⟩ := hr6
        simp only [Value.slice.injEq] at hrn
        obtain ⟨rfl, rfl, rfl⟩ := hrn
        have be8 := (Below.refl w8.heap.size w8).alloc (Nat.le_refl _) (.cells #[.int .u32 v6, .slice none 0 0] 30)
        have B8 := hid (BB6.out.trans (be8.mono BB6.out.size))
        have E8 := hid (Bx.new w8 #[.int .u32 v6, .slice none 0 0] 30)
        have E4c := hid (E4bb.out.below be8)
        have E6c := hid (E6b.out.below be8)
        have e4 : w8.cell? ⟨w4.heap.size, 0, none⟩ = some (.int .u32 1) := by simpa using E4bb.out.cell 0
        have e60 : w8.cell? ⟨w6.heap.size, 0, none⟩ = some (.int .u32 1) := by simpa using E6b.out.cell 0
        have l4 : w4.heap.size < w8.heap.size := E4bb.out.lt
        have l6 : w6.heap.size < w8.heap.size := E6b.out.lt
        have GGc := hid (GGb.out.below be8)
        have OOc := hid (own_mono OOb.out be8 (Nat.le_refl _))
        clear be8 BB6 XB6 E4bb E6b GGb OOb B6 H6 X6 E4b E6 nE4 nE4b nE6 hlt4 hlt5 hlt6 hs6 hne nGG nOO GG OO
        have hbz : ((0 < bl) = False ∧ True) ∨ ((0 < bl) = True ∧ (bl ≤ v6) = False) := by
          by_cases h9 : bl = 0
          · exact .inl ⟨eq_false (by omega), trivial⟩
          · exact .inr ⟨eq_true (by omega), eq_false (by have := hv1 (by omega); omega)⟩
        obtain ⟨gb, cb, hsh, -⟩ := own_shape OOc.out (by omega)
        simp only [Value.slice.injEq, true_and] at hsh
        obtain ⟨rfl, rfl⟩ := hsh
        have cn := hid (fun w' => named10 s w')
        cases hns : nmB s
        · rw [hns] at cn
          by_cases h2 : s.size < 200
          · have H200 := hid (show ((s.size : Int) < 200) = True from eq_true (by omega))
            clear h2
            rcases hbz with ⟨hz, -⟩ | ⟨hz1, hz2⟩
            · clear hns hv1 hv0
              go_wp2_with fail
              clear e4 e60 l4 l6
              generalize w8.alloc (.cells #[.int .u32 v6, .slice none 0 0] 30) = w9 at *
              have e4 : w9.cell? ⟨w4.heap.size, 0, none⟩ = some (.int .u32 1) := by simpa using E4c.out.cell 0
              have e60 : w9.cell? ⟨w6.heap.size, 0, none⟩ = some (.int .u32 1) := by simpa using E6c.out.cell 0
              have e61 : w9.cell? ⟨w6.heap.size, 1, none⟩ = some (.slice (some ⟨g, 0, none⟩) 1 1) := by simpa using E6c.out.cell 1
              have g0 : w9.cell? ⟨g, 0, none⟩ = some (.int .u32 240) := by simpa using GGc.out.cell 0
              have g1 : w9.cell? ⟨g, 1, none⟩ = some (.slice (some ⟨gb, 0, none⟩) 4 bc) := by simpa using GGc.out.cell 1
              have HO := hid (fun j (hj : j < 4) => show w9.cell? ⟨gb, j, none⟩ = some (.int .u8 ((le 4 x).getD j 0)) from by
                rw [OOc.out.cellAt j (by omega), List.getElem?_map, List.getElem?_eq_getElem (show j < (le 4 x).length from hj)]
                simp [List.getD, List.getElem?_eq_getElem (show j < (le 4 x).length from hj)])
              have lg := GGc.out.lt
              have l6 := E6c.out.lt
              have h200 := H200.out
              clear H200
              go_quiet ((go_at_call 10; exact Calls.quiet_of_same (cn.out _)))
              have e4' : (w9.drewN nq).cell? ⟨w4.heap.size, 0, none⟩ = some (.int .u32 1) := e4
              have e61' : (w9.drewN nq).cell? ⟨w6.heap.size, 1, none⟩ = some (.slice (some ⟨g, 0, none⟩) 1 1) := e61
              have g0' : (w9.drewN nq).cell? ⟨g, 0, none⟩ = some (.int .u32 240) := g0
              have g1' : (w9.drewN nq).cell? ⟨g, 1, none⟩ = some (.slice (some ⟨gb, 0, none⟩) 4 bc) := g1
              have HO' := hid (show ∀ j, j < 4 → (w9.drewN nq).cell? ⟨gb, j, none⟩ = some (.int .u8 ((le 4 x).getD j 0)) from HO.out)
              have lg' : g < (w9.drewN nq).heap.size := lg
              have l6' : w6.heap.size < (w9.drewN nq).heap.size := l6
              have B9 : Hid (Below w.heap.size w (w9.drewN nq)) := below_drewN' B8.out nq
              clear e4 e60 e61 g0 g1 HO lg l6 B8 E4c E6c E8 GGc OOc
              generalize w9.drewN nq = w10 at *
              go_wp2_with fail
              have c11 := hid (same11 4 bc 4 gb w10.heap.size (le 4 x) rfl (by omega) (w10.alloc (.cells #[.int .u8 (x % 256), .int .u8 (x / 256 % 256), .int .u8 (x / 65536 % 256), .int .u8 (x / 16777216)] 5))
                (fun j hj => cell_on (HO'.out j hj) ((Below.refl _ _).alloc (Nat.le_refl _) _))
                (fun j hj => (Bx.new w10 _ 5).cell j |>.trans (want4 x hx j hj)))
              refine c11.out.mono ?_
              rintro e w11 ⟨rfl, hb11⟩
              have B11 := hid (B9.out.trans (((Below.refl w10.heap.size w10).alloc (Nat.le_refl _) (.cells #[.int .u8 (x % 256), .int .u8 (x / 256 % 256), .int .u8 (x / 65536 % 256), .int .u8 (x / 16777216)] 5)).trans (hb11.mono (by simp)) |>.mono B9.out.size))
              clear c11 hb11
              go_wp2_with fail
              go_ret
              exact ⟨rfl, B11.out⟩

            · clear hns hv1 hv0
              go_wp2_with fail
              clear e4 e60 l4 l6
              generalize w8.alloc (.cells #[.int .u32 v6, .slice none 0 0] 30) = w9 at *
              have e4 : w9.cell? ⟨w4.heap.size, 0, none⟩ = some (.int .u32 1) := by simpa using E4c.out.cell 0
              have e60 : w9.cell? ⟨w6.heap.size, 0, none⟩ = some (.int .u32 1) := by simpa using E6c.out.cell 0
              have e61 : w9.cell? ⟨w6.heap.size, 1, none⟩ = some (.slice (some ⟨g, 0, none⟩) 1 1) := by simpa using E6c.out.cell 1
              have g0 : w9.cell? ⟨g, 0, none⟩ = some (.int .u32 240) := by simpa using GGc.out.cell 0
              have g1 : w9.cell? ⟨g, 1, none⟩ = some (.slice (some ⟨gb, 0, none⟩) 4 bc) := by simpa using GGc.out.cell 1
              have HO := hid (fun j (hj : j < 4) => show w9.cell? ⟨gb, j, none⟩ = some (.int .u8 ((le 4 x).getD j 0)) from by
                rw [OOc.out.cellAt j (by omega), List.getElem?_map, List.getElem?_eq_getElem (show j < (le 4 x).length from hj)]
                simp [List.getD, List.getElem?_eq_getElem (show j < (le 4 x).length from hj)])
              have lg := GGc.out.lt
              have l6 := E6c.out.lt
              have h200 := H200.out
              clear H200
              go_quiet ((go_at_call 10; exact Calls.quiet_of_same (cn.out _)))
              have e4' : (w9.drewN nq).cell? ⟨w4.heap.size, 0, none⟩ = some (.int .u32 1) := e4
              have e61' : (w9.drewN nq).cell? ⟨w6.heap.size, 1, none⟩ = some (.slice (some ⟨g, 0, none⟩) 1 1) := e61
              have g0' : (w9.drewN nq).cell? ⟨g, 0, none⟩ = some (.int .u32 240) := g0
              have g1' : (w9.drewN nq).cell? ⟨g, 1, none⟩ = some (.slice (some ⟨gb, 0, none⟩) 4 bc) := g1
              have HO' := hid (show ∀ j, j < 4 → (w9.drewN nq).cell? ⟨gb, j, none⟩ = some (.int .u8 ((le 4 x).getD j 0)) from HO.out)
              have lg' : g < (w9.drewN nq).heap.size := lg
              have l6' : w6.heap.size < (w9.drewN nq).heap.size := l6
              have B9 : Hid (Below w.heap.size w (w9.drewN nq)) := below_drewN' B8.out nq
              clear e4 e60 e61 g0 g1 HO lg l6 B8 E4c E6c E8 GGc OOc
              generalize w9.drewN nq = w10 at *
              go_wp2_with fail
              have c11 := hid (same11 4 bc 4 gb w10.heap.size (le 4 x) rfl (by omega) (w10.alloc (.cells #[.int .u8 (x % 256), .int .u8 (x / 256 % 256), .int .u8 (x / 65536 % 256), .int .u8 (x / 16777216)] 5))
                (fun j hj => cell_on (HO'.out j hj) ((Below.refl _ _).alloc (Nat.le_refl _) _))
                (fun j hj => (Bx.new w10 _ 5).cell j |>.trans (want4 x hx j hj)))
              refine c11.out.mono ?_
              rintro e w11 ⟨rfl, hb11⟩
              have B11 := hid (B9.out.trans (((Below.refl w10.heap.size w10).alloc (Nat.le_refl _) (.cells #[.int .u8 (x % 256), .int .u8 (x / 256 % 256), .int .u8 (x / 65536 % 256), .int .u8 (x / 16777216)] 5)).trans (hb11.mono (by simp)) |>.mono B9.out.size))
              clear c11 hb11
              go_wp2_with fail
              go_ret
              exact ⟨rfl, B11.out⟩

          · have H200 := hid (show ((s.size : Int) < 200) = False from eq_false (by omega))
            clear h2
            rcases hbz with ⟨hz, -⟩ | ⟨hz1, hz2⟩
            · clear hns hv1 hv0
              go_wp2_with fail
              clear e4 e60 l4 l6
              generalize w8.alloc (.cells #[.int .u32 v6, .slice none 0 0] 30) = w9 at *
              have e4 : w9.cell? ⟨w4.heap.size, 0, none⟩ = some (.int .u32 1) := by simpa using E4c.out.cell 0
              have e60 : w9.cell? ⟨w6.heap.size, 0, none⟩ = some (.int .u32 1) := by simpa using E6c.out.cell 0
              have e61 : w9.cell? ⟨w6.heap.size, 1, none⟩ = some (.slice (some ⟨g, 0, none⟩) 1 1) := by simpa using E6c.out.cell 1
              have g0 : w9.cell? ⟨g, 0, none⟩ = some (.int .u32 240) := by simpa using GGc.out.cell 0
              have g1 : w9.cell? ⟨g, 1, none⟩ = some (.slice (some ⟨gb, 0, none⟩) 4 bc) := by simpa using GGc.out.cell 1
              have HO := hid (fun j (hj : j < 4) => show w9.cell? ⟨gb, j, none⟩ = some (.int .u8 ((le 4 x).getD j 0)) from by
                rw [OOc.out.cellAt j (by omega), List.getElem?_map, List.getElem?_eq_getElem (show j < (le 4 x).length from hj)]
                simp [List.getD, List.getElem?_eq_getElem (show j < (le 4 x).length from hj)])
              have lg := GGc.out.lt
              have l6 := E6c.out.lt
              have h200 := H200.out
              clear H200
              go_quiet ((go_at_call 10; exact Calls.quiet_of_same (cn.out _)))
              have e4' : (w9.drewN nq).cell? ⟨w4.heap.size, 0, none⟩ = some (.int .u32 1) := e4
              have e61' : (w9.drewN nq).cell? ⟨w6.heap.size, 1, none⟩ = some (.slice (some ⟨g, 0, none⟩) 1 1) := e61
              have g0' : (w9.drewN nq).cell? ⟨g, 0, none⟩ = some (.int .u32 240) := g0
              have g1' : (w9.drewN nq).cell? ⟨g, 1, none⟩ = some (.slice (some ⟨gb, 0, none⟩) 4 bc) := g1
              have HO' := hid (show ∀ j, j < 4 → (w9.drewN nq).cell? ⟨gb, j, none⟩ = some (.int .u8 ((le 4 x).getD j 0)) from HO.out)
              have lg' : g < (w9.drewN nq).heap.size := lg
              have l6' : w6.heap.size < (w9.drewN nq).heap.size := l6
              have B9 : Hid (Below w.heap.size w (w9.drewN nq)) := below_drewN' B8.out nq
              clear e4 e60 e61 g0 g1 HO lg l6 B8 E4c E6c E8 GGc OOc
              generalize w9.drewN nq = w10 at *
              go_wp2_with fail
              have c11 := hid (same11 4 bc 4 gb w10.heap.size (le 4 x) rfl (by omega) (w10.alloc (.cells #[.int .u8 (x % 256), .int .u8 (x / 256 % 256), .int .u8 (x / 65536 % 256), .int .u8 (x / 16777216)] 5))
                (fun j hj => cell_on (HO'.out j hj) ((Below.refl _ _).alloc (Nat.le_refl _) _))
                (fun j hj => (Bx.new w10 _ 5).cell j |>.trans (want4 x hx j hj)))
              refine c11.out.mono ?_
              rintro e w11 ⟨rfl, hb11⟩
              have B11 := hid (B9.out.trans (((Below.refl w10.heap.size w10).alloc (Nat.le_refl _) (.cells #[.int .u8 (x % 256), .int .u8 (x / 256 % 256), .int .u8 (x / 65536 % 256), .int .u8 (x / 16777216)] 5)).trans (hb11.mono (by simp)) |>.mono B9.out.size))
              clear c11 hb11
              go_wp2_with fail
              go_ret
              exact ⟨rfl, B11.out⟩

            · clear hns hv1 hv0
              go_wp2_with fail
              clear e4 e60 l4 l6
              generalize w8.alloc (.cells #[.int .u32 v6, .slice none 0 0] 30) = w9 at *
              have e4 : w9.cell? ⟨w4.heap.size, 0, none⟩ = some (.int .u32 1) := by simpa using E4c.out.cell 0
              have e60 : w9.cell? ⟨w6.heap.size, 0, none⟩ = some (.int .u32 1) := by simpa using E6c.out.cell 0
              have e61 : w9.cell? ⟨w6.heap.size, 1, none⟩ = some (.slice (some ⟨g, 0, none⟩) 1 1) := by simpa using E6c.out.cell 1
              have g0 : w9.cell? ⟨g, 0, none⟩ = some (.int .u32 240) := by simpa using GGc.out.cell 0
              have g1 : w9.cell? ⟨g, 1, none⟩ = some (.slice (some ⟨gb, 0, none⟩) 4 bc) := by simpa using GGc.out.cell 1
              have HO := hid (fun j (hj : j < 4) => show w9.cell? ⟨gb, j, none⟩ = some (.int .u8 ((le 4 x).getD j 0)) from by
                rw [OOc.out.cellAt j (by omega), List.getElem?_map, List.getElem?_eq_getElem (show j < (le 4 x).length from hj)]
                simp [List.getD, List.getElem?_eq_getElem (show j < (le 4 x).length from hj)])
              have lg := GGc.out.lt
              have l6 := E6c.out.lt
              have h200 := H200.out
              clear H200
              go_quiet ((go_at_call 10; exact Calls.quiet_of_same (cn.out _)))
              have e4' : (w9.drewN nq).cell? ⟨w4.heap.size, 0, none⟩ = some (.int .u32 1) := e4
              have e61' : (w9.drewN nq).cell? ⟨w6.heap.size, 1, none⟩ = some (.slice (some ⟨g, 0, none⟩) 1 1) := e61
              have g0' : (w9.drewN nq).cell? ⟨g, 0, none⟩ = some (.int .u32 240) := g0
              have g1' : (w9.drewN nq).cell? ⟨g, 1, none⟩ = some (.slice (some ⟨gb, 0, none⟩) 4 bc) := g1
              have HO' := hid (show ∀ j, j < 4 → (w9.drewN nq).cell? ⟨gb, j, none⟩ = some (.int .u8 ((le 4 x).getD j 0)) from HO.out)
              have lg' : g < (w9.drewN nq).heap.size := lg
              have l6' : w6.heap.size < (w9.drewN nq).heap.size := l6
              have B9 : Hid (Below w.heap.size w (w9.drewN nq)) := below_drewN' B8.out nq
              clear e4 e60 e61 g0 g1 HO lg l6 B8 E4c E6c E8 GGc OOc
              generalize w9.drewN nq = w10 at *
              go_wp2_with fail
              have c11 := hid (same11 4 bc 4 gb w10.heap.size (le 4 x) rfl (by omega) (w10.alloc (.cells #[.int .u8 (x % 256), .int .u8 (x / 256 % 256), .int .u8 (x / 65536 % 256), .int .u8 (x / 16777216)] 5))
                (fun j hj => cell_on (HO'.out j hj) ((Below.refl _ _).alloc (Nat.le_refl _) _))
                (fun j hj => (Bx.new w10 _ 5).cell j |>.trans (want4 x hx j hj)))
              refine c11.out.mono ?_
              rintro e w11 ⟨rfl, hb11⟩
              have B11 := hid (B9.out.trans (((Below.refl w10.heap.size w10).alloc (Nat.le_refl _) (.cells #[.int .u8 (x % 256), .int .u8 (x / 256 % 256), .int .u8 (x / 65536 % 256), .int .u8 (x / 16777216)] 5)).trans (hb11.mono (by simp)) |>.mono B9.out.size))
              clear c11 hb11
              go_wp2_with fail
              go_ret
              exact ⟨rfl, B11.out⟩

        · rw [hns] at cn
          rcases hbz with ⟨hz, -⟩ | ⟨hz1, hz2⟩
          · clear hns hv1 hv0
            go_wp2_with fail
            clear e4 e60 l4 l6
            generalize w8.alloc (.cells #[.int .u32 v6, .slice none 0 0] 30) = w9 at *
            have e4 : w9.cell? ⟨w4.heap.size, 0, none⟩ = some (.int .u32 1) := by simpa using E4c.out.cell 0
            have e60 : w9.cell? ⟨w6.heap.size, 0, none⟩ = some (.int .u32 1) := by simpa using E6c.out.cell 0
            have e61 : w9.cell? ⟨w6.heap.size, 1, none⟩ = some (.slice (some ⟨g, 0, none⟩) 1 1) := by simpa using E6c.out.cell 1
            have g0 : w9.cell? ⟨g, 0, none⟩ = some (.int .u32 240) := by simpa using GGc.out.cell 0
            have g1 : w9.cell? ⟨g, 1, none⟩ = some (.slice (some ⟨gb, 0, none⟩) 4 bc) := by simpa using GGc.out.cell 1
            have HO := hid (fun j (hj : j < 4) => show w9.cell? ⟨gb, j, none⟩ = some (.int .u8 ((le 4 x).getD j 0)) from by
              rw [OOc.out.cellAt j (by omega), List.getElem?_map, List.getElem?_eq_getElem (show j < (le 4 x).length from hj)]
              simp [List.getD, List.getElem?_eq_getElem (show j < (le 4 x).length from hj)])
            have lg := GGc.out.lt
            have l6 := E6c.out.lt
            go_quiet ((go_at_call 10; exact Calls.quiet_of_same (cn.out _)))
            have e4' : (w9.drewN nq).cell? ⟨w4.heap.size, 0, none⟩ = some (.int .u32 1) := e4
            have e61' : (w9.drewN nq).cell? ⟨w6.heap.size, 1, none⟩ = some (.slice (some ⟨g, 0, none⟩) 1 1) := e61
            have g0' : (w9.drewN nq).cell? ⟨g, 0, none⟩ = some (.int .u32 240) := g0
            have g1' : (w9.drewN nq).cell? ⟨g, 1, none⟩ = some (.slice (some ⟨gb, 0, none⟩) 4 bc) := g1
            have HO' := hid (show ∀ j, j < 4 → (w9.drewN nq).cell? ⟨gb, j, none⟩ = some (.int .u8 ((le 4 x).getD j 0)) from HO.out)
            have lg' : g < (w9.drewN nq).heap.size := lg
            have l6' : w6.heap.size < (w9.drewN nq).heap.size := l6
            have B9 : Hid (Below w.heap.size w (w9.drewN nq)) := below_drewN' B8.out nq
            clear e4 e60 e61 g0 g1 HO lg l6 B8 E4c E6c E8 GGc OOc
            generalize w9.drewN nq = w10 at *
            go_wp2_with fail
            have c11 := hid (same11 4 bc 4 gb w10.heap.size (le 4 x) rfl (by omega) (w10.alloc (.cells #[.int .u8 (x % 256), .int .u8 (x / 256 % 256), .int .u8 (x / 65536 % 256), .int .u8 (x / 16777216)] 5))
              (fun j hj => cell_on (HO'.out j hj) ((Below.refl _ _).alloc (Nat.le_refl _) _))
              (fun j hj => (Bx.new w10 _ 5).cell j |>.trans (want4 x hx j hj)))
            refine c11.out.mono ?_
            rintro e w11 ⟨rfl, hb11⟩
            have B11 := hid (B9.out.trans (((Below.refl w10.heap.size w10).alloc (Nat.le_refl _) (.cells #[.int .u8 (x % 256), .int .u8 (x / 256 % 256), .int .u8 (x / 65536 % 256), .int .u8 (x / 16777216)] 5)).trans (hb11.mono (by simp)) |>.mono B9.out.size))
            clear c11 hb11
            go_wp2_with fail
            go_ret
            exact ⟨rfl, B11.out⟩

          · clear hns hv1 hv0
            go_wp2_with fail
            clear e4 e60 l4 l6
            generalize w8.alloc (.cells #[.int .u32 v6, .slice none 0 0] 30) = w9 at *
            have e4 : w9.cell? ⟨w4.heap.size, 0, none⟩ = some (.int .u32 1) := by simpa using E4c.out.cell 0
            have e60 : w9.cell? ⟨w6.heap.size, 0, none⟩ = some (.int .u32 1) := by simpa using E6c.out.cell 0
            have e61 : w9.cell? ⟨w6.heap.size, 1, none⟩ = some (.slice (some ⟨g, 0, none⟩) 1 1) := by simpa using E6c.out.cell 1
            have g0 : w9.cell? ⟨g, 0, none⟩ = some (.int .u32 240) := by simpa using GGc.out.cell 0
            have g1 : w9.cell? ⟨g, 1, none⟩ = some (.slice (some ⟨gb, 0, none⟩) 4 bc) := by simpa using GGc.out.cell 1
            have HO := hid (fun j (hj : j < 4) => show w9.cell? ⟨gb, j, none⟩ = some (.int .u8 ((le 4 x).getD j 0)) from by
              rw [OOc.out.cellAt j (by omega), List.getElem?_map, List.getElem?_eq_getElem (show j < (le 4 x).length from hj)]
              simp [List.getD, List.getElem?_eq_getElem (show j < (le 4 x).length from hj)])
            have lg := GGc.out.lt
            have l6 := E6c.out.lt
            go_quiet ((go_at_call 10; exact Calls.quiet_of_same (cn.out _)))
            have e4' : (w9.drewN nq).cell? ⟨w4.heap.size, 0, none⟩ = some (.int .u32 1) := e4
            have e61' : (w9.drewN nq).cell? ⟨w6.heap.size, 1, none⟩ = some (.slice (some ⟨g, 0, none⟩) 1 1) := e61
            have g0' : (w9.drewN nq).cell? ⟨g, 0, none⟩ = some (.int .u32 240) := g0
            have g1' : (w9.drewN nq).cell? ⟨g, 1, none⟩ = some (.slice (some ⟨gb, 0, none⟩) 4 bc) := g1
            have HO' := hid (show ∀ j, j < 4 → (w9.drewN nq).cell? ⟨gb, j, none⟩ = some (.int .u8 ((le 4 x).getD j 0)) from HO.out)
            have lg' : g < (w9.drewN nq).heap.size := lg
            have l6' : w6.heap.size < (w9.drewN nq).heap.size := l6
            have B9 : Hid (Below w.heap.size w (w9.drewN nq)) := below_drewN' B8.out nq
            clear e4 e60 e61 g0 g1 HO lg l6 B8 E4c E6c E8 GGc OOc
            generalize w9.drewN nq = w10 at *
            go_wp2_with fail
            have c11 := hid (same11 4 bc 4 gb w10.heap.size (le 4 x) rfl (by omega) (w10.alloc (.cells #[.int .u8 (x % 256), .int .u8 (x / 256 % 256), .int .u8 (x / 65536 % 256), .int .u8 (x / 16777216)] 5))
              (fun j hj => cell_on (HO'.out j hj) ((Below.refl _ _).alloc (Nat.le_refl _) _))
              (fun j hj => (Bx.new w10 _ 5).cell j |>.trans (want4 x hx j hj)))
            refine c11.out.mono ?_
            rintro e w11 ⟨rfl, hb11⟩
            have B11 := hid (B9.out.trans (((Below.refl w10.heap.size w10).alloc (Nat.le_refl _) (.cells #[.int .u8 (x % 256), .int .u8 (x / 256 % 256), .int .u8 (x / 65536 % 256), .int .u8 (x / 16777216)] 5)).trans (hb11.mono (by simp)) |>.mono B9.out.size))
            clear c11 hb11
            go_wp2_with fail
            go_ret
            exact ⟨rfl, B11.out⟩




end Go.Proofs.YtmjholcpajfldaaGreatDoor
