/- Walks: lives. No condition. -/
import Derived.Test.YtmjholcpajfldaaGreatDoorHostI
namespace Go.Proofs.YtmjholcpajfldaaGreatDoor
open Go.RowKit
set_option linter.unusedVariables false
set_option linter.unusedSimpArgs false

set_option maxRecDepth 100000

theorem itoa_m1 : Lib.itoa (sgn 4294967295) = [45, 49] := by kernel_rfl
theorem bv_rep (n : Nat) : (bv (List.replicate n 0)).toArray = Array.replicate n (.int .u8 0) := by
  simp only [bv, List.map_replicate, List.toArray_replicate]
  rfl
/-- a host that was made, shows a word -/
def LivR (B h mb : Nat) (v : Int) (r : Value) (w' : World) : Prop := v = 2 ∧ ∃ cv', Ho w' B h cv' [45, 49] mb [] 7 0
set_option maxHeartbeats 4000000 in
theorem lives8 (w : World) (htab : ∀ w', Below w.heap.size w w' → TB w') : Calls Tryz.prog 8 #[] w fun e w' => e = .returned (.bool true) ∧ Below w.heap.size w w' := by
  go_enter Tryz.func8, Tryz.ntmps8
  go_wp2_with fail
  refine (new7 7 (by omega) (by omega) w).mono ?_
  rintro e w1 ⟨rfl, hH, hb1, hs1⟩
  have hH1 : Ho w1 w.heap.size (w.heap.size + 1) (.slice none 0 0) [] w.heap.size [] 7 0 := hH
  have hmk : (Instr.makeSlice 27 (.int .i64 256) (.int .i64 256)).run Tryz.prog w1 = .ok (.slice (some ⟨w1.heap.size, 0, none⟩) 256 256) (w1.alloc (.cells (Array.replicate 256 (.int .u8 0)) 5)) := by kernel_rfl
  obtain ⟨l, hl⟩ : ∃ l : List UInt8, l = List.replicate 256 0 := ⟨_, rfl⟩
  have hll : l.length = 256 := by rw [hl]; exact List.length_replicate
  have hbv : (bv l).toArray = Array.replicate 256 (.int .u8 0) := by rw [hl]; exact bv_rep 256
  have hx0 := Bx.new w1 (Array.replicate 256 (.int .u8 0)) 5
  rw [← hbv] at hx0 hmk
  have hb2 := (Below.refl w1.heap.size w1).alloc (Nat.le_refl _) (.cells (bv l).toArray 5)
  have H2 := hH1.below hb2
  have B2 := hb1.trans (hb2.mono hb1.size)
  have hs2 : (w1.alloc (.cells (bv l).toArray 5)).heap.size = w1.heap.size + 1 := by simp
  generalize w1.alloc (.cells (bv l).toArray 5) = w2 at *
  have hb3 := (Below.refl w2.heap.size w2).alloc (Nat.le_refl _) (.cells #[.int .u32 4294967295] 23)
  have X3 := hx0.below hb3
  have H3 := H2.below hb3
  have A3 : Bx (w2.alloc (.cells #[.int .u32 4294967295] 23)) (w1.heap.size + 1) #[.int .u32 4294967295] 23 := by rw [← hs2]; exact Bx.new w2 #[.int .u32 4294967295] 23
  have B3 := hid (B2.trans (hb3.mono B2.size))
  have cs := hid (answer9 w.heap.size (w.heap.size + 1) w.heap.size (.slice none 0 0) [] [] 7 0 2 (by omega) 18 rfl (some ⟨w1.heap.size + 1, 0, none⟩) 1 1 (by decide) w1.heap.size l hll _ X3 H3 (LivR w.heap.size (w.heap.size + 1) w.heap.size) (enters_of Tryz.func39 (by kernel_rfl) rfl)
    (fun w5 q h5 _ _ => by
      refine (int39 (H3.below h5) _ (w1.heap.size + 1) 4294967295 (by omega) (A3.below h5) (fun w' h' => htab w' (B3.out.trans ((h5.mono B3.out.size).trans (h'.mono (Nat.le_trans B3.out.size h5.size))))) (by rw [itoa_m1]; decide)).mono fun e w' => ?_
      rintro ⟨v, ao, n, c, he, hk, hv, -, cv', hH'⟩
      rw [itoa_m1] at hv hH'
      exact ⟨v, ao, n, c, he, hk, by simpa using hv, cv', hH'⟩)
    (fun v r w2' w3' q a b hq hbx hg hR => by
      obtain ⟨rfl, cv', hH'⟩ := hR
      have hr := row_ne_box hH'.own hbx (by decide)
      have hq9 := H3.bx.lt
      have hq8 := H3.mp.lt
      refine ⟨rfl, cv', hH'.kpt (T := fun b => b = q) (Kpt.gr hg (Nat.le_refl _) fun k e => by simp only [Option.some.injEq] at e; exact .inl e.symm) fun b hb e => ?_⟩
      rcases hb with hb | hb | hb
      · omega
      · omega
      · rw [e] at hb
        exact hr hb))
  have hlo := hid H3.hlt
  clear hH hH1 hl hbv hx0 hb2 H2 B2 hb3 X3 H3 A3 hb1 htab hs1
  go_wp2_with fail
  refine cs.out.mono ?_
  clear cs
  rintro e w4 ⟨v, ao, m, cp, rfl, hk4, rfl, cv', hH4⟩
  have B4 := hid (B3.out.trans (hk4.below (B3.out.size) (fun b hb => (hlo.out b hb).1)))
  have hb5 := (Below.refl w4.heap.size w4).alloc (Nat.le_refl _) (.cells #[.int .u32 2, .slice ao m cp] 30)
  have B5 := hid (B4.out.trans (hb5.mono B4.out.size))
  have cc := hid (console15 (hH4.below hb5))
  clear hk4 hH4 hlo B3 hmk
  go_wp2_with (go_at_call 15; refine cc.out.mono ?_; rintro e w6 ⟨rfl, rfl⟩)
  go_ret
  exact ⟨rfl, B5.out⟩

end Go.Proofs.YtmjholcpajfldaaGreatDoor
