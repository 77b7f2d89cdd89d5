/- Walks: a window of a memory is read; the text at its beginning. No condition. -/
import Derived.Laws.CopyOwn
import Derived.Outline
import Derived.Deep.RegionHeld3
import Derived.Test.YtmjholcpajfldaaGreatDoorHostJ
namespace Go.Proofs.YtmjholcpajfldaaGreatDoor
open Go.RowKit
set_option linter.unusedVariables false
set_option linter.unusedSimpArgs false

set_option maxRecDepth 100000

/-- copy of as many cells as a row has, into that row -/
theorem step_copy_whole {P : Program} {ops : Array Oper} {o : Oper} {a : Act} {w : World} {K : Act → World → Prop} {Q : Exit → Act → World → Prop} {E : Prop} (hgd : o.guard = none) (d s : Operand) (dT sT : TypeId)
    (ho : o.op = .call { callee := .builtin .copy, args := #[d, s], argTypes := #[dT, sT] }) (elem : TypeId) (hu : P.underlying dT = some (.slice elem)) (hsz : (P.info? elem).map (·.size) = some 1)
    (dLen dCap sLen sCap : Nat) (g : Nat) (ad : Addr) (hd : a.eval d = .slice (some ⟨g, 0, none⟩) dLen dCap) (hs : a.eval s = .slice (some ad) sLen sCap)
    (cur : Array Value) (t : TypeId) (hg : Bx w g cur t) (cs : List Value) (hn : cs.length = Nat.min sLen dLen)
    (hsrc : ∀ j v, cs[j]? = some v → w.cell? (ad.add j) = some v) (hfit : cs.length = cur.size) (h1 : ∀ v ∈ cs, v.oneCell' = true)
    (h : ∀ w', Bx w' g cs.toArray t → w.grownBy w' (some g) → K (a.put o.dst (goInt cs.length)) w') :
    if Region.wanted o (yielded ops a.tmps) = true then Oper.wp P o a w K Q else E := by
  have hw : Region.wanted o (yielded ops a.tmps) = true := by simp [Region.wanted, hgd]
  rw [if_pos hw]
  have hrun := run_copy_row (P := P) w dT sT o.type elem g 0 dLen dCap ad sLen sCap cur t cs hu hsz hg hn hsrc (by omega) h1
  have he : (cur.toList.take 0 ++ cs ++ cur.toList.drop (0 + cs.length)).toArray = cs.toArray := by
    rw [List.drop_eq_nil_of_le (by rw [hfit]; simp)]
    simp
  rw [he] at hrun
  unfold Oper.wp
  simp only [execOp, ho, resolve, invoke, builtin, Sem.run_bind, Sem.run_pure, Result.andThen_ok, List.map_toArray, List.map_cons, List.map_nil, hd, hs, hrun]
  exact h _ (setRow_heap w g _ _ t _ hg) ⟨rfl, rfl, rfl, by simp [World.setRow], fun k _ hn => setRow_other w g k _ (fun e => hn (by rw [e]))⟩
theorem Me.drewN {w : World} {q B : Nat} {l : List UInt8} (h : Me w q B l) (n : Nat) : Me (w.drewN n) q B l := ⟨h.row, h.len, h.lo⟩
theorem Me.cell {w : World} {q B : Nat} {l : List UInt8} (h : Me w q B l) : ∃ g cap, w.cell? ⟨q, 0, none⟩ = some (.slice (some ⟨g, 0, none⟩) 256 cap) ∧ w.cell? ⟨q, 1, none⟩ = some (.bool false) ∧ w.ownsRow B 5 1 (.slice (some ⟨g, 0, none⟩) 256 cap) 256 (bv l) := by
  obtain ⟨mv, h1, h2⟩ := h.row
  rw [h.len] at h2
  obtain ⟨g, cap, rfl, -⟩ := own_shape h2 (by omega)
  exact ⟨g, cap, by simpa using h1.cell 0, by simpa using h1.cell 1, h2⟩
theorem place172 {w : World} {q B : Nat} {l : List UInt8} (h : Me w q B l) : Calls Tryz.prog 172 #[.pointer (some ⟨q, 0, none⟩), .int .u32 0] w fun e w' => e = .returned (.int .u32 0) ∧ w' = w := by
  obtain ⟨g, cap, c0, -, -⟩ := h.cell
  have hbt : bits BinOp.and IntKind.u32 0 255 = 0 := by decide
  clear h
  go_enter Tryz.func172, Tryz.ntmps172
  go_wp2_with fail
  go_ret
  exact ⟨rfl, rfl⟩
theorem made144 {w : World} {q B : Nat} {l : List UInt8} (h : Me w q B l) : Calls Tryz.prog 144 #[.pointer (some ⟨q, 0, none⟩)] w fun e w' => e = .returned (.bool true) ∧ w' = w := by
  obtain ⟨g, cap, c0, -, -⟩ := h.cell
  clear h
  go_enter Tryz.func144, Tryz.ntmps144
  go_wp2_with fail
  go_ret
  exact ⟨rfl, rfl⟩
theorem plain171 {w : World} {q B : Nat} {l : List UInt8} (h : Me w q B l) : Calls Tryz.prog 171 #[.pointer (some ⟨q, 0, none⟩), .int .u32 0, .int .i64 256] w fun e w' => e = .returned (.bool true) ∧ ∃ m, w' = w.drewN m := by
  obtain ⟨g, cap, c0, c1, -⟩ := h.cell
  have c := hid (fun n => place172 (h.drewN n))
  clear h
  go_enter Tryz.func171, Tryz.ntmps171
  go_wp2_with fail
  go_quiet ((go_at_call 172; exact Calls.quiet_of_same (c.out _)))
  go_wp2_with fail
  go_ret
  exact ⟨rfl, _, rfl⟩
set_option maxHeartbeats 4000000 in
theorem read145 {w : World} {q B : Nat} {l : List UInt8} (h : Me w q B l) :
    Calls Tryz.prog 145 #[.pointer (some ⟨q, 0, none⟩), .int .u32 0, .int .i64 256] w fun e w' => ∃ g, e = .returned (.slice (some ⟨g, 0, none⟩) 256 256) ∧ Bx w' g (bv l).toArray 5 ∧ Below w.heap.size w w' := by
  have b0 := (Below.refl w.heap.size w).alloc (Nat.le_refl _) (.cells #[.pointer (some ⟨q, 0, none⟩)] 63)
  have X0 := Bx.new w #[.pointer (some ⟨q, 0, none⟩)] 63
  have hs0 : (w.alloc (.cells #[.pointer (some ⟨q, 0, none⟩)] 63)).heap.size = w.heap.size + 1 := by simp
  obtain ⟨w0, hw0⟩ : ∃ w0, w0 = w.alloc (.cells #[.pointer (some ⟨q, 0, none⟩)] 63) := ⟨_, rfl⟩
  rw [← hw0] at b0 X0 hs0
  have hw1 := hw0.symm
  clear hw0
  have hmk : (Instr.makeSlice 27 (.int .i64 256) (.int .i64 256)).run Tryz.prog w0 = .ok (.slice (some ⟨w0.heap.size, 0, none⟩) 256 256) (w0.alloc (.cells (Array.replicate 256 (.int .u8 0)) 5)) := by kernel_rfl
  have b1 := (Below.refl w0.heap.size w0).alloc (Nat.le_refl _) (.cells (Array.replicate 256 (.int .u8 0)) 5)
  have X1 : Bx (w0.alloc (.cells (Array.replicate 256 (.int .u8 0)) 5)) (w.heap.size + 1) (Array.replicate 256 (.int .u8 0)) 5 := by rw [← hs0]; exact Bx.new w0 _ 5
  have hs1 : (w0.alloc (.cells (Array.replicate 256 (.int .u8 0)) 5)).heap.size = w.heap.size + 2 := by simp [hs0]
  have Y0 := X0.below b1
  have c1 := b0.trans (b1.mono b0.size)
  rw [hs0] at hmk
  generalize w0.alloc (.cells (Array.replicate 256 (.int .u8 0)) 5) = w1 at *
  have b2 := (Below.refl w1.heap.size w1).alloc (Nat.le_refl _) (.cells #[.slice (some ⟨w.heap.size + 1, 0, none⟩) 256 256] 27)
  have X2 : Bx (w1.alloc (.cells #[.slice (some ⟨w.heap.size + 1, 0, none⟩) 256 256] 27)) (w.heap.size + 2) #[.slice (some ⟨w.heap.size + 1, 0, none⟩) 256 256] 27 := by rw [← hs1]; exact Bx.new w1 _ 27
  have Z0 := hid (Y0.below b2)
  have Z1 := hid (X1.below b2)
  have Z2 := hid X2
  have B2 := hid (c1.trans (b2.mono c1.size))
  have M2 := hid (h.below B2.out)
  have hl := h.len
  have hq0 : q < w.heap.size := by obtain ⟨mv, h8, -⟩ := h.row; exact h8.lt
  have hs2 : (w1.alloc (.cells #[.slice (some ⟨w.heap.size + 1, 0, none⟩) 256 256] 27)).heap.size = w.heap.size + 3 := by simp [hs1]
  clear b0 X0 b1 X1 Y0 c1 b2 X2 h
  obtain ⟨w2, hw2⟩ : ∃ w2, w1.alloc (.cells #[.slice (some ⟨w.heap.size + 1, 0, none⟩) 256 256] 27) = w2 := ⟨_, rfl⟩
  rw [hw2] at Z0 Z1 Z2 B2 M2 hs2
  have z0 : w2.cell? ⟨w.heap.size, 0, none⟩ = some (.pointer (some ⟨q, 0, none⟩)) := by simpa using Z0.out.cell 0
  have z2 : w2.cell? ⟨w.heap.size + 2, 0, none⟩ = some (.slice (some ⟨w.heap.size + 1, 0, none⟩) 256 256) := by simpa using Z2.out.cell 0
  have cp := hid (plain171 M2.out)
  go_enter Tryz.func145, Tryz.ntmps145
  go_wp2_with fail
  clear hw1 hw2 hmk hs0 hs1
  refine cp.out.mono ?_
  clear cp
  rintro e w3 ⟨rfl, m, rfl⟩
  have M3 := hid (M2.out.drewN m)
  have b3 : Below w2.heap.size w2 (w2.drewN m) := below_drewN' (Below.refl _ _) m
  have B3 := hid (B2.out.trans (b3.mono B2.out.size))
  have Z3 := hid (Z0.out.below b3)
  have Z4 := hid (Z1.out.below b3)
  have Z5 := hid (Z2.out.below b3)
  have hs3 : (w2.drewN m).heap.size = w.heap.size + 3 := hs2
  clear z0 z2 hs2 M2 B2 Z0 Z1 Z2 b3
  generalize w2.drewN m = w4 at *
  have bd := hid (Below.refl w4.heap.size w4).drew
  have M4 := hid (M3.out.below bd.out)
  have B4 := hid (B3.out.trans (bd.out.mono B3.out.size))
  have Z6 := hid (Z3.out.below bd.out)
  have Z7 := hid (Z4.out.below bd.out)
  have Z8 := hid (Z5.out.below bd.out)
  have hs4 : w4.drew.heap.size = w.heap.size + 3 := hs3
  go_wp2_with fail
  obtain ⟨sg, sc, m0, -, mo⟩ := M4.out.cell
  have M0 := hid mo
  have hsc : 256 ≤ sc := by
    rcases mo.2 with ⟨h9, -⟩ | ⟨g, cp, cur, h9, h8, h7, h6, r⟩
    · cases h9
    · simp only [Value.slice.injEq] at h9
      omega
  clear mo
  have hm5 := hid m0
  refine wp_region_held_drew (S := (fun w9 => Bx w9 w.heap.size #[.pointer (some ⟨q, 0, none⟩)] 63 ∧ Bx w9 (w.heap.size + 2) #[.slice (some ⟨w.heap.size + 1, 0, none⟩) 256 256] 27 ∧ w9.cell? ⟨q, 0, none⟩ = some (.slice (some ⟨sg, 0, none⟩) 256 sc))) (by kernel_rfl) ⟨Z6.out, Z8.out, m0⟩ (fun hHeld => ?_)
  clear M3 B3 Z3 Z4 Z5 hs3 bd m0
  generalize w4.drew = w5 at *
  refine wpAnyH_take (i := 0) (v := ?_) (by simp only [List.getElem?_toArray, List.getElem?_cons_succ, List.getElem?_cons_zero]; rfl) (by kernel_rfl) (by kernel_rfl) (by kernel_rfl) (by intro _ _ _ h; exact h) (Or.inl ⟨by rfl, ?_⟩) (by assumption) ?_
  rotate_left
  · intro w' hSw; have q1 := hSw.2.1.cell 0; simp at q1; go_simp; (try with_reducible rfl)
  try simp only [Act.put, List.setIfInBounds_toArray, List.set_cons_zero, List.set_cons_succ]
  refine wpAnyH_take (i := 1) (v := ?_) (by simp only [List.getElem?_toArray, List.getElem?_cons_succ, List.getElem?_cons_zero]; rfl) (by kernel_rfl) (by kernel_rfl) (by kernel_rfl) (by intro _ _ _ h; exact h) (Or.inl ⟨by rfl, ?_⟩) (by assumption) ?_
  rotate_left
  · intro w' hSw; have q1 := hSw.1.cell 0; simp at q1; go_simp; (try with_reducible rfl)
  try simp only [Act.put, List.setIfInBounds_toArray, List.set_cons_zero, List.set_cons_succ]
  refine wpAnyH_take (i := 2) (v := ?_) (by simp only [List.getElem?_toArray, List.getElem?_cons_succ, List.getElem?_cons_zero]; rfl) (by kernel_rfl) (by kernel_rfl) (by kernel_rfl) (by intro _ _ _ h; exact h) (Or.inl ⟨by rfl, ?_⟩) (by assumption) ?_
  rotate_left
  · intro w' hSw; go_simp; (try with_reducible rfl)
  try simp only [Act.put, List.setIfInBounds_toArray, List.set_cons_zero, List.set_cons_succ]
  refine wpAnyH_take (i := 3) (v := ?_) (by simp only [List.getElem?_toArray, List.getElem?_cons_succ, List.getElem?_cons_zero]; rfl) (by kernel_rfl) (by kernel_rfl) (by kernel_rfl) (by intro _ _ _ h; exact h) (Or.inl ⟨by rfl, ?_⟩) (by assumption) ?_
  rotate_left
  · intro w' hSw; go_simp; (try with_reducible rfl)
  try simp only [Act.put, List.setIfInBounds_toArray, List.set_cons_zero, List.set_cons_succ]
  refine wpAnyH_take (i := 4) (v := ?_) (by simp only [List.getElem?_toArray, List.getElem?_cons_succ, List.getElem?_cons_zero]; rfl) (by kernel_rfl) (by kernel_rfl) (by kernel_rfl) (by intro _ _ _ h; exact h) (Or.inl ⟨by rfl, ?_⟩) (by assumption) ?_
  rotate_left
  · intro w' hSw; have q1 := hSw.2.2; go_simp; (try with_reducible rfl)
  try simp only [Act.put, List.setIfInBounds_toArray, List.set_cons_zero, List.set_cons_succ]
  refine wpAnyH_take (i := 5) (v := ?_) (by simp only [List.getElem?_toArray, List.getElem?_cons_succ, List.getElem?_cons_zero]; rfl) (by kernel_rfl) (by kernel_rfl) (by kernel_rfl) (by intro _ _ _ h; exact h) (Or.inl ⟨by rfl, ?_⟩) (by assumption) ?_
  rotate_left
  · intro w' hSw; have q1 := hSw.1.cell 0; simp at q1; go_simp; (try with_reducible rfl)
  try simp only [Act.put, List.setIfInBounds_toArray, List.set_cons_zero, List.set_cons_succ]
  refine wpAnyH_take (i := 6) (v := ?_) (by simp only [List.getElem?_toArray, List.getElem?_cons_succ, List.getElem?_cons_zero]; rfl) (by kernel_rfl) (by kernel_rfl) (by kernel_rfl) (by intro _ _ _ h; exact h) (Or.inl ⟨by rfl, ?_⟩) (by assumption) ?_
  rotate_left
  · intro w' hSw; go_simp; (try with_reducible rfl)
  try simp only [Act.put, List.setIfInBounds_toArray, List.set_cons_zero, List.set_cons_succ]
  refine wpAnyH_ready (rs := [7]) (by kernel_rfl) (by simp) ?_
  refine AllReadyH.cons (by simp only [List.getElem?_toArray, List.getElem?_cons_succ, List.getElem?_cons_zero]; rfl) (fun K hK => ?_) AllReadyH.nil
  go_simp
  go_at_call 172
  refine (place172 M4.out).mono ?_
  rintro e w2 ⟨rfl, rfl⟩
  have hk := hHeld
  clear hHeld
  go_wp2_with fail
  refine hK.out _ _ hk (fun hHeld => ?_)
  clear hK K hk
  try simp only [Act.put, List.setIfInBounds_toArray, List.set_cons_zero, List.set_cons_succ]
  refine wpAnyH_take (i := 8) (v := ?_) (by simp only [List.getElem?_toArray, List.getElem?_cons_succ, List.getElem?_cons_zero]; rfl) (by kernel_rfl) (by kernel_rfl) (by kernel_rfl) (by intro _ _ _ h; exact h) (Or.inl ⟨by rfl, ?_⟩) (by assumption) ?_
  rotate_left
  · intro w' hSw; go_simp; (try with_reducible rfl)
  try simp only [Act.put, List.setIfInBounds_toArray, List.set_cons_zero, List.set_cons_succ]
  refine wpAnyH_ready (rs := [9]) (by kernel_rfl) (by simp) ?_
  refine AllReadyH.cons (by simp only [List.getElem?_toArray, List.getElem?_cons_succ, List.getElem?_cons_zero]; rfl) (fun K hK => ?_) AllReadyH.nil
  refine step_copy_whole rfl _ _ 27 27 rfl 5 Tryz.underlying27 (by kernel_rfl) 256 256 256 sc (w.heap.size + 1) ⟨sg, 0, none⟩ rfl rfl (Array.replicate 256 (.int .u8 0)) 5 Z7.out (bv l) (by rw [bv_len, hl]; rfl) (M0.out.cells rfl) (by rw [bv_len, hl]; simp) (bv_one l) ?_
  intro w7 hg7 hb7
  have G7 := hid hg7
  have Q6 := Z6.out.on hb7 (by simp)
  have Q8 := Z8.out.on hb7 (by simp)
  have hs7 := hb7.size
  have m7 : w7.cell? ⟨q, 0, none⟩ = some (.slice (some ⟨sg, 0, none⟩) 256 sc) := by
    exact hb7.cell hm5.out (by simp; omega)
  have hk := hid (show (fun w9 => Bx w9 w.heap.size #[.pointer (some ⟨q, 0, none⟩)] 63 ∧ Bx w9 (w.heap.size + 2) #[.slice (some ⟨w.heap.size + 1, 0, none⟩) 256 256] 27 ∧ w9.cell? ⟨q, 0, none⟩ = some (.slice (some ⟨sg, 0, none⟩) 256 sc)) w7 from ⟨Q6, Q8, m7⟩)
  have B7 := hid (B4.out.trans ⟨hb7.os, hb7.tape, hb7.output, hb7.size, fun k hk => hb7.block k (by have := B4.out.size; omega) (by simp; omega)⟩)
  have z8 : w7.cell? ⟨w.heap.size + 2, 0, none⟩ = some (.slice (some ⟨w.heap.size + 1, 0, none⟩) 256 256) := by simpa using Q8.cell 0
  clear hb7 Q6 Q8 m7
  refine hK.out _ _ hk.out (fun hHeld => ?_)
  clear hK K hk hHeld
  try simp only [Act.put, List.setIfInBounds_toArray, List.set_cons_zero, List.set_cons_succ]
  refine wpAnyH_done (by kernel_rfl) ?_ _
  go_wp2_with fail
  go_ret
  exact ⟨_, rfl, G7.out, B7.out⟩

end Go.Proofs.YtmjholcpajfldaaGreatDoor
