/- Walks: a host made of a state. No condition. -/
import Derived.Test.YtmjholcpajfldaaGreatDoorHostMm
namespace Go.Proofs.YtmjholcpajfldaaGreatDoor
open Go.RowKit
set_option linter.unusedVariables false
set_option linter.unusedSimpArgs false

set_option maxRecDepth 100000

theorem Vr.below' {w w' : World} {ao : Option Addr} {l : NW} (h : Vr w ao l) (hb : Below w.heap.size w w') : Vr w' ao l := h.below hb
/-- what Load gives -/
def LoadR (B : Nat) (con : List UInt8) (l : NW) (sd ck : Int) (ok : Bool) (e : Ending) (w' : World) : Prop :=
  (ok = true → ∃ h cv mb, e = .returned (.tuple #[.pointer (some ⟨h, 0, none⟩), .int .i64 0]) ∧ Ho w' B h cv con mb (vsA l) sd ck ∧ Mb w' mb) ∧ (ok = false → e = .returned (.tuple #[.pointer none, .int .i64 174]))
set_option maxHeartbeats 16000000 in
theorem load13_loop (co vo : Option Addr) (m n cc vc : Nat) (con : List UInt8) (hcl : con.length = m) (l : NW) (hl : l.length = n) (sd ck : Int) (w : World) (hv : Vr w vo l) (hb : By w co con) (h1 : m ≤ 4096) (h2 : n ≤ 32) (h3 : 0 < sd ∧ sd < 18446744073709551616) (h4 : 0 ≤ ck ∧ ck < 4294967296) :
    Calls Tryz.prog 13 #[.agg #[.slice co m cc, .slice vo n vc, .int .u64 sd, .int .u32 ck]] w fun e w' => Below w.heap.size w w' ∧ LoadR w.heap.size con l sd ck ((List.range l.length).all (okAt l)) e w' := by
  have b0 := (Below.refl w.heap.size w).alloc (Nat.le_refl _) (.cells #[.slice co m cc, .slice vo n vc, .int .u64 sd, .int .u32 ck] 45)
  have X0 := Bx.new w #[.slice co m cc, .slice vo n vc, .int .u64 sd, .int .u32 ck] 45
  have c0 : (w.alloc (.cells #[.slice co m cc, .slice vo n vc, .int .u64 sd, .int .u32 ck] 45)).cell? ⟨w.heap.size, 0, none⟩ = some (.slice co m cc) := by simp
  have c1 : (w.alloc (.cells #[.slice co m cc, .slice vo n vc, .int .u64 sd, .int .u32 ck] 45)).cell? ⟨w.heap.size, 1, none⟩ = some (.slice vo n vc) := by simp
  have c2 : (w.alloc (.cells #[.slice co m cc, .slice vo n vc, .int .u64 sd, .int .u32 ck] 45)).cell? ⟨w.heap.size, 2, none⟩ = some (.int .u64 sd) := by simp
  have F0 := new7 sd (by omega) h3.2 (w.alloc (.cells #[.slice co m cc, .slice vo n vc, .int .u64 sd, .int .u32 ck] 45))
  have hs0 : (w.alloc (.cells #[.slice co m cc, .slice vo n vc, .int .u64 sd, .int .u32 ck] 45)).heap.size = w.heap.size + 1 := by simp
  rw [hs0] at F0
  have F7 := hid F0
  have hB0 := hid b0
  have hX0 := hid X0
  have hV := hid hv
  have hY := hid hb
  have hN := hid hl
  have hC := hid hcl
  have hSd := hid h3
  have hCk := hid h4
  have e1 : ((4096 : Int) < (m : Int)) = False := eq_false (by omega)
  have e2 : ((32 : Int) < (n : Int)) = False := eq_false (by omega)
  have e3 : (sd = 0) = False := eq_false (by omega)
  have e4 : (sd == 0) = false := by simp; omega
  have hM := hid h1
  have e5 : Hid (seedOf sd = sd) := by unfold Hid seedOf; rw [if_neg (by omega)]
  clear b0 X0 F0 hs0 hv hb hl hcl h1 h3 h4
  go_enter Tryz.func13, Tryz.ntmps13
  go_wp2_with fail
  go_at_call 7
  refine F7.out.mono ?_
  rintro e w1 ⟨rfl, hH, hb1, hsz⟩
  rw [e5.out] at hH
  have hb1' : Below (w.alloc (.cells #[.slice co m cc, .slice vo n vc, .int .u64 sd, .int .u32 ck] 45)).heap.size (w.alloc (.cells #[.slice co m cc, .slice vo n vc, .int .u64 sd, .int .u32 ck] 45)) w1 := by rw [World.size_alloc]; exact hb1
  have B1 := hid (hB0.out.trans (hb1.mono (by omega)))
  have X1 := hid (hX0.out.below hb1')
  have c0' := cell_on c0 hb1'
  have c1' := cell_on c1 hb1'
  clear hB0 hX0 c0 c1 c2 hb1 hb1' F7 hsz e5
  have H1 := hid hH
  clear hH
  have K1 := hid (Mb.of_nil H1.out.mp)
  generalize hh : w.heap.size + 1 + 1 = h at *
  generalize hmb : w.heap.size + 1 = mb at *
  have hq := hid (show w.heap.size < mb ∧ w.heap.size < h by omega)
  clear hh hmb
  go_wp2_with fail
  go_loopw [5, 6, 28] (fun _ _ i wr => ∃ (k : Nat), k ≤ n ∧ i = .int .i64 k ∧ Hid (∀ j, j < k → okAt l j = true) ∧ Hid (Below w.heap.size w wr) ∧ Hid (Bx wr w.heap.size #[.slice co m cc, .slice vo n vc, .int .u64 sd, .int .u32 ck] 45) ∧ Hid (Ho wr mb h (.slice none 0 0) [] mb ((vsA l).take k) sd 0) ∧ Hid (Mb wr mb)) (fun _ _ i _ => n - (intOf i).toNat)
  case atStart => exact ⟨0, by omega, rfl, hid (fun j hj => by omega), B1, X1, H1, K1⟩
  case round =>
    clear B1 X1 H1 K1 c0' c1'
    obtain ⟨k, hk, rfl, hz, B2, X2, H2, K2⟩ := hrel
    by_cases hlt : k < n
    · obtain ⟨b, off, hvo, hc⟩ := (hV.out.below' B2.out).cell
      obtain rfl := hvo.resolve_left (by have := hN.out; omega)
      have d1 := (hc k (by have := hN.out; omega)).1
      have d2 := (hc k (by have := hN.out; omega)).2
      have d0 := (hc (k - 1) (by have := hN.out; omega)).1
      have hOk := hid (show okAt l k = (nmB (nmA l k) && (decide (k = 0) || Op.bytesLess (nmA l (k - 1)).toList (nmA l k).toList)) from rfl)
      have hPut := hid (show okAt l k = true → putM (nmA l k) (.int .u32 (wdA l k)) ((vsA l).take k) = (vsA l).take (k + 1) from fun ho => put_new (by have := hN.out; omega) fun j hj => by rcases Nat.lt_or_eq_of_le hj with h8 | h8; exact hz.out j h8; rw [h8]; exact ho)
      have hWf := hid (hV.out.wf k (by have := hN.out; omega))
      clear hvo hc
      rename_i wr
      generalize hs : nmA l k = s at *
      generalize nmA l (k - 1) = s0 at *
      generalize hx : wdA l k = x at *
      clear hs hx
      have ba := (Below.refl wr.heap.size wr).alloc (Nat.le_refl _) (.cells #[.string s, .int .u32 x] 77)
      have X3 := hid (Bx.new wr #[.string s, .int .u32 x] 77)
      have X2' := hid (X2.out.below ba)
      have H2' := hid (H2.out.below ba)
      have K2' := hid (K2.out.below ba)
      have d0' := hid (cell_on d0 ba)
      have B3 := hid (B2.out.trans (ba.mono B2.out.size))
      have hg := hid (show w.heap.size ≤ wr.heap.size from B2.out.size)
      have hgh := hid (show h < wr.heap.size from H2.out.bx.lt)
      go_wp2_with fail
      clear d0 d1 d2 ba X2 H2 B2 K2
      generalize wr.alloc (.cells #[.string s, .int .u32 x] 77) = w3 at *
      generalize wr.heap.size = g at *
      have bd := (Below.refl w3.heap.size w3).drew
      have Y1 := hid (X2'.out.below bd)
      have Y2 := hid (X3.out.below bd)
      have Y3 := hid (cell_on d0'.out bd)
      have H4 := hid (H2'.out.below bd)
      have K4 := hid (K2'.out.below bd)
      have B4 := hid (B3.out.trans (bd.mono B3.out.size))
      clear X2' X3 d0' H2' B3 K2'

      cases hnb : nmB s
      · have c26 : Hid (∀ w, Calls Tryz.prog 26 #[.string s] w fun e w' => e = .returned (.bool false) ∧ Below w.heap.size w w') := hid (fun w => hnb ▸ nameMay26' s w)
        refine wp_region_held_drew (S := (fun w9 => Bx w9 w.heap.size #[.slice co m cc, .slice (some ⟨b, off, none⟩) n vc, .int .u64 sd, .int .u32 ck] 45 ∧ Bx w9 g #[.string s, .int .u32 x] 77 ∧ w9.cell? ⟨b, off + (k - 1) * 2, none⟩ = some (.string s0))) (by kernel_rfl) ⟨Y1.out, Y2.out, Y3.out⟩ (fun hHeld => ?_)
        clear Y3 bd
        generalize w3.drew = w4 at *
        refine wpAnyH_take (i := 0) (v := ?_) (by simp only [List.getElem?_toArray, List.getElem?_cons_succ, List.getElem?_cons_zero]; rfl) (by kernel_rfl) (by kernel_rfl) (by kernel_rfl) (by intro _ _ _ h; exact h) (Or.inl ⟨by rfl, ?_⟩) (by assumption) ?_
        rotate_left
        · intro w' hSw; go_simp; (try with_reducible rfl)
        try simp only [Act.put, List.setIfInBounds_toArray, List.set_cons_zero, List.set_cons_succ]
        refine wpAnyH_take (i := 1) (v := ?_) (by simp only [List.getElem?_toArray, List.getElem?_cons_succ, List.getElem?_cons_zero]; rfl) (by kernel_rfl) (by kernel_rfl) (by kernel_rfl) (by intro _ _ _ h; exact h) (Or.inl ⟨by rfl, ?_⟩) (by assumption) ?_
        rotate_left
        · intro w' hSw; have q0 := hSw.2.1.cell 0; simp at q0; go_simp; (try with_reducible rfl)
        try simp only [Act.put, List.setIfInBounds_toArray, List.set_cons_zero, List.set_cons_succ]
        refine wpAnyH_ready (rs := [2]) (by kernel_rfl) (by simp) ?_
        refine AllReadyH.cons (by simp only [List.getElem?_toArray, List.getElem?_cons_succ, List.getElem?_cons_zero]; rfl) (fun K hK => ?_) AllReadyH.nil
        go_simp
        go_at_call 26
        refine (c26.out _).mono ?_
        rintro e w2 ⟨rfl, hb5⟩
        have hk := (show (fun w9 => Bx w9 w.heap.size #[.slice co m cc, .slice (some ⟨b, off, none⟩) n vc, .int .u64 sd, .int .u32 ck] 45 ∧ Bx w9 g #[.string s, .int .u32 x] 77 ∧ w9.cell? ⟨b, off + (k - 1) * 2, none⟩ = some (.string s0)) w2 from ⟨hHeld.1.below hb5, hHeld.2.1.below hb5, cell_on hHeld.2.2 hb5⟩)
        have B5 := hid (B4.out.trans (hb5.mono B4.out.size))
        have H5 := hid (H4.out.below hb5)
        have K5 := hid (K4.out.below hb5)
        have Z1 := hid (Y1.out.below hb5)
        have Z2 := hid (Y2.out.below hb5)
        clear B4 H4 K4 Y1 Y2 hb5 c26
        clear hHeld
        go_wp2_with fail
        refine hK.out _ _ hk (fun hHeld => ?_)
        clear hK K hk
        try simp only [Act.put, List.setIfInBounds_toArray, List.set_cons_zero, List.set_cons_succ]
        refine wpAnyH_take (i := 3) (v := ?_) (by simp only [List.getElem?_toArray, List.getElem?_cons_succ, List.getElem?_cons_zero]; rfl) (by kernel_rfl) (by kernel_rfl) (by kernel_rfl) (by intro _ _ _ h; exact h) (Or.inl ⟨by rfl, ?_⟩) (by assumption) ?_
        rotate_left
        · intro w' hSw; go_simp; (try with_reducible rfl)
        try simp only [Act.put, List.setIfInBounds_toArray, List.set_cons_zero, List.set_cons_succ]
        refine wpAnyH_take (i := 4) (v := ?_) (by simp only [List.getElem?_toArray, List.getElem?_cons_succ, List.getElem?_cons_zero]; rfl) (by kernel_rfl) (by kernel_rfl) (by kernel_rfl) (by intro _ _ _ h; exact h) (Or.inl ⟨by rfl, ?_⟩) (by assumption) ?_
        rotate_left
        · intro w' hSw; go_simp; (try with_reducible rfl)
        try simp only [Act.put, List.setIfInBounds_toArray, List.set_cons_zero, List.set_cons_succ]
        refine wpAnyH_take (i := 5) (v := undef) (by simp only [List.getElem?_toArray, List.getElem?_cons_succ, List.getElem?_cons_zero]; rfl) (by kernel_rfl) (by kernel_rfl) (by kernel_rfl) (by intro _ _ _ h; exact h) (Or.inr ⟨by rfl, rfl⟩) (by assumption) ?_
        try simp only [Act.put, List.setIfInBounds_toArray, List.set_cons_zero, List.set_cons_succ]
        refine wpAnyH_take (i := 6) (v := undef) (by simp only [List.getElem?_toArray, List.getElem?_cons_succ, List.getElem?_cons_zero]; rfl) (by kernel_rfl) (by kernel_rfl) (by kernel_rfl) (by intro _ _ _ h; exact h) (Or.inr ⟨by rfl, rfl⟩) (by assumption) ?_
        try simp only [Act.put, List.setIfInBounds_toArray, List.set_cons_zero, List.set_cons_succ]
        refine wpAnyH_take (i := 7) (v := undef) (by simp only [List.getElem?_toArray, List.getElem?_cons_succ, List.getElem?_cons_zero]; rfl) (by kernel_rfl) (by kernel_rfl) (by kernel_rfl) (by intro _ _ _ h; exact h) (Or.inr ⟨by rfl, rfl⟩) (by assumption) ?_
        try simp only [Act.put, List.setIfInBounds_toArray, List.set_cons_zero, List.set_cons_succ]
        refine wpAnyH_take (i := 8) (v := undef) (by simp only [List.getElem?_toArray, List.getElem?_cons_succ, List.getElem?_cons_zero]; rfl) (by kernel_rfl) (by kernel_rfl) (by kernel_rfl) (by intro _ _ _ h; exact h) (Or.inr ⟨by rfl, rfl⟩) (by assumption) ?_
        try simp only [Act.put, List.setIfInBounds_toArray, List.set_cons_zero, List.set_cons_succ]
        refine wpAnyH_take (i := 9) (v := undef) (by simp only [List.getElem?_toArray, List.getElem?_cons_succ, List.getElem?_cons_zero]; rfl) (by kernel_rfl) (by kernel_rfl) (by kernel_rfl) (by intro _ _ _ h; exact h) (Or.inr ⟨by rfl, rfl⟩) (by assumption) ?_
        try simp only [Act.put, List.setIfInBounds_toArray, List.set_cons_zero, List.set_cons_succ]
        refine wpAnyH_take (i := 10) (v := undef) (by simp only [List.getElem?_toArray, List.getElem?_cons_succ, List.getElem?_cons_zero]; rfl) (by kernel_rfl) (by kernel_rfl) (by kernel_rfl) (by intro _ _ _ h; exact h) (Or.inr ⟨by rfl, rfl⟩) (by assumption) ?_
        try simp only [Act.put, List.setIfInBounds_toArray, List.set_cons_zero, List.set_cons_succ]
        refine wpAnyH_take (i := 11) (v := undef) (by simp only [List.getElem?_toArray, List.getElem?_cons_succ, List.getElem?_cons_zero]; rfl) (by kernel_rfl) (by kernel_rfl) (by kernel_rfl) (by intro _ _ _ h; exact h) (Or.inr ⟨by rfl, rfl⟩) (by assumption) ?_
        try simp only [Act.put, List.setIfInBounds_toArray, List.set_cons_zero, List.set_cons_succ]
        refine wpAnyH_take (i := 12) (v := undef) (by simp only [List.getElem?_toArray, List.getElem?_cons_succ, List.getElem?_cons_zero]; rfl) (by kernel_rfl) (by kernel_rfl) (by kernel_rfl) (by intro _ _ _ h; exact h) (Or.inr ⟨by rfl, rfl⟩) (by assumption) ?_
        try simp only [Act.put, List.setIfInBounds_toArray, List.set_cons_zero, List.set_cons_succ]
        refine wpAnyH_take (i := 13) (v := undef) (by simp only [List.getElem?_toArray, List.getElem?_cons_succ, List.getElem?_cons_zero]; rfl) (by kernel_rfl) (by kernel_rfl) (by kernel_rfl) (by intro _ _ _ h; exact h) (Or.inr ⟨by rfl, rfl⟩) (by assumption) ?_
        try simp only [Act.put, List.setIfInBounds_toArray, List.set_cons_zero, List.set_cons_succ]
        refine wpAnyH_take (i := 14) (v := undef) (by simp only [List.getElem?_toArray, List.getElem?_cons_succ, List.getElem?_cons_zero]; rfl) (by kernel_rfl) (by kernel_rfl) (by kernel_rfl) (by intro _ _ _ h; exact h) (Or.inr ⟨by rfl, rfl⟩) (by assumption) ?_
        try simp only [Act.put, List.setIfInBounds_toArray, List.set_cons_zero, List.set_cons_succ]
        refine wpAnyH_take (i := 15) (v := undef) (by simp only [List.getElem?_toArray, List.getElem?_cons_succ, List.getElem?_cons_zero]; rfl) (by kernel_rfl) (by kernel_rfl) (by kernel_rfl) (by intro _ _ _ h; exact h) (Or.inr ⟨by rfl, rfl⟩) (by assumption) ?_
        try simp only [Act.put, List.setIfInBounds_toArray, List.set_cons_zero, List.set_cons_succ]
        refine wpAnyH_take (i := 16) (v := undef) (by simp only [List.getElem?_toArray, List.getElem?_cons_succ, List.getElem?_cons_zero]; rfl) (by kernel_rfl) (by kernel_rfl) (by kernel_rfl) (by intro _ _ _ h; exact h) (Or.inr ⟨by rfl, rfl⟩) (by assumption) ?_
        try simp only [Act.put, List.setIfInBounds_toArray, List.set_cons_zero, List.set_cons_succ]
        refine wpAnyH_take (i := 17) (v := undef) (by simp only [List.getElem?_toArray, List.getElem?_cons_succ, List.getElem?_cons_zero]; rfl) (by kernel_rfl) (by kernel_rfl) (by kernel_rfl) (by intro _ _ _ h; exact h) (Or.inr ⟨by rfl, rfl⟩) (by assumption) ?_
        try simp only [Act.put, List.setIfInBounds_toArray, List.set_cons_zero, List.set_cons_succ]
        refine wpAnyH_take (i := 18) (v := undef) (by simp only [List.getElem?_toArray, List.getElem?_cons_succ, List.getElem?_cons_zero]; rfl) (by kernel_rfl) (by kernel_rfl) (by kernel_rfl) (by intro _ _ _ h; exact h) (Or.inr ⟨by rfl, rfl⟩) (by assumption) ?_
        try simp only [Act.put, List.setIfInBounds_toArray, List.set_cons_zero, List.set_cons_succ]
        refine wpAnyH_take (i := 19) (v := ?_) (by simp only [List.getElem?_toArray, List.getElem?_cons_succ, List.getElem?_cons_zero]; rfl) (by kernel_rfl) (by kernel_rfl) (by kernel_rfl) (by intro _ _ _ h; exact h) (Or.inl ⟨by rfl, ?_⟩) (by assumption) ?_
        rotate_left
        · intro w' hSw; go_simp; (try with_reducible rfl)
        try simp only [Act.put, List.setIfInBounds_toArray, List.set_cons_zero, List.set_cons_succ]
        refine wpAnyH_done (by kernel_rfl) ?_ _
        clear hHeld
        have hno : Hid (okAt l k = false) := by unfold Hid; rw [hOk.out, hnb]; rfl
        go_wp2_with fail
        go_ret2
        refine ⟨B5.out, ?_⟩
        rw [may_no (k := k) (by have := hN.out; omega) hno.out]
        exact ⟨fun h => Bool.noConfusion h, fun _ => rfl⟩
      · rcases Nat.eq_zero_or_pos k with h0 | h0
        · have g3 : (0 < k) = False := eq_false (by omega)
          have hyes : Hid (okAt l k = true) := by unfold Hid; rw [hOk.out, hnb, h0]; rfl
          clear h0
          have c26 : Hid (∀ w, Calls Tryz.prog 26 #[.string s] w fun e w' => e = .returned (.bool true) ∧ Below w.heap.size w w') := hid (fun w => hnb ▸ nameMay26' s w)
          refine wp_region_held_drew (S := (fun w9 => Bx w9 w.heap.size #[.slice co m cc, .slice (some ⟨b, off, none⟩) n vc, .int .u64 sd, .int .u32 ck] 45 ∧ Bx w9 g #[.string s, .int .u32 x] 77 ∧ w9.cell? ⟨b, off + (k - 1) * 2, none⟩ = some (.string s0))) (by kernel_rfl) ⟨Y1.out, Y2.out, Y3.out⟩ (fun hHeld => ?_)
          clear Y3 bd
          generalize w3.drew = w4 at *
          refine wpAnyH_take (i := 0) (v := ?_) (by simp only [List.getElem?_toArray, List.getElem?_cons_succ, List.getElem?_cons_zero]; rfl) (by kernel_rfl) (by kernel_rfl) (by kernel_rfl) (by intro _ _ _ h; exact h) (Or.inl ⟨by rfl, ?_⟩) (by assumption) ?_
          rotate_left
          · intro w' hSw; go_simp; (try with_reducible rfl)
          try simp only [Act.put, List.setIfInBounds_toArray, List.set_cons_zero, List.set_cons_succ]
          refine wpAnyH_take (i := 1) (v := ?_) (by simp only [List.getElem?_toArray, List.getElem?_cons_succ, List.getElem?_cons_zero]; rfl) (by kernel_rfl) (by kernel_rfl) (by kernel_rfl) (by intro _ _ _ h; exact h) (Or.inl ⟨by rfl, ?_⟩) (by assumption) ?_
          rotate_left
          · intro w' hSw; have q0 := hSw.2.1.cell 0; simp at q0; go_simp; (try with_reducible rfl)
          try simp only [Act.put, List.setIfInBounds_toArray, List.set_cons_zero, List.set_cons_succ]
          refine wpAnyH_ready (rs := [2]) (by kernel_rfl) (by simp) ?_
          refine AllReadyH.cons (by simp only [List.getElem?_toArray, List.getElem?_cons_succ, List.getElem?_cons_zero]; rfl) (fun K hK => ?_) AllReadyH.nil
          go_simp
          go_at_call 26
          refine (c26.out _).mono ?_
          rintro e w2 ⟨rfl, hb5⟩
          have hk := (show (fun w9 => Bx w9 w.heap.size #[.slice co m cc, .slice (some ⟨b, off, none⟩) n vc, .int .u64 sd, .int .u32 ck] 45 ∧ Bx w9 g #[.string s, .int .u32 x] 77 ∧ w9.cell? ⟨b, off + (k - 1) * 2, none⟩ = some (.string s0)) w2 from ⟨hHeld.1.below hb5, hHeld.2.1.below hb5, cell_on hHeld.2.2 hb5⟩)
          have B5 := hid (B4.out.trans (hb5.mono B4.out.size))
          have H5 := hid (H4.out.below hb5)
          have K5 := hid (K4.out.below hb5)
          have Z1 := hid (Y1.out.below hb5)
          have Z2 := hid (Y2.out.below hb5)
          clear B4 H4 K4 Y1 Y2 hb5 c26
          clear hHeld
          go_wp2_with fail
          refine hK.out _ _ hk (fun hHeld => ?_)
          clear hK K hk
          try simp only [Act.put, List.setIfInBounds_toArray, List.set_cons_zero, List.set_cons_succ]
          refine wpAnyH_take (i := 3) (v := ?_) (by simp only [List.getElem?_toArray, List.getElem?_cons_succ, List.getElem?_cons_zero]; rfl) (by kernel_rfl) (by kernel_rfl) (by kernel_rfl) (by intro _ _ _ h; exact h) (Or.inl ⟨by rfl, ?_⟩) (by assumption) ?_
          rotate_left
          · intro w' hSw; go_simp; (try with_reducible rfl)
          try simp only [Act.put, List.setIfInBounds_toArray, List.set_cons_zero, List.set_cons_succ]
          refine wpAnyH_take (i := 4) (v := ?_) (by simp only [List.getElem?_toArray, List.getElem?_cons_succ, List.getElem?_cons_zero]; rfl) (by kernel_rfl) (by kernel_rfl) (by kernel_rfl) (by intro _ _ _ h; exact h) (Or.inl ⟨by rfl, ?_⟩) (by assumption) ?_
          rotate_left
          · intro w' hSw; go_simp; (try with_reducible rfl)
          try simp only [Act.put, List.setIfInBounds_toArray, List.set_cons_zero, List.set_cons_succ]
          refine wpAnyH_take (i := 5) (v := ?_) (by simp only [List.getElem?_toArray, List.getElem?_cons_succ, List.getElem?_cons_zero]; rfl) (by kernel_rfl) (by kernel_rfl) (by kernel_rfl) (by intro _ _ _ h; exact h) (Or.inl ⟨by rfl, ?_⟩) (by assumption) ?_
          rotate_left
          · intro w' hSw; go_simp; (try with_reducible rfl)
          try simp only [Act.put, List.setIfInBounds_toArray, List.set_cons_zero, List.set_cons_succ]
          refine wpAnyH_take (i := 6) (v := ?_) (by simp only [List.getElem?_toArray, List.getElem?_cons_succ, List.getElem?_cons_zero]; rfl) (by kernel_rfl) (by kernel_rfl) (by kernel_rfl) (by intro _ _ _ h; exact h) (Or.inl ⟨by rfl, ?_⟩) (by assumption) ?_
          rotate_left
          · intro w' hSw; go_simp; (try with_reducible rfl)
          try simp only [Act.put, List.setIfInBounds_toArray, List.set_cons_zero, List.set_cons_succ]
          refine wpAnyH_take (i := 7) (v := ?_) (by simp only [List.getElem?_toArray, List.getElem?_cons_succ, List.getElem?_cons_zero]; rfl) (by kernel_rfl) (by kernel_rfl) (by kernel_rfl) (by intro _ _ _ h; exact h) (Or.inl ⟨by rfl, ?_⟩) (by assumption) ?_
          rotate_left
          · intro w' hSw; go_simp; (try with_reducible rfl)
          try simp only [Act.put, List.setIfInBounds_toArray, List.set_cons_zero, List.set_cons_succ]
          refine wpAnyH_take (i := 8) (v := undef) (by simp only [List.getElem?_toArray, List.getElem?_cons_succ, List.getElem?_cons_zero]; rfl) (by kernel_rfl) (by kernel_rfl) (by kernel_rfl) (by intro _ _ _ h; exact h) (Or.inr ⟨by rfl, rfl⟩) (by assumption) ?_
          try simp only [Act.put, List.setIfInBounds_toArray, List.set_cons_zero, List.set_cons_succ]
          refine wpAnyH_take (i := 9) (v := undef) (by simp only [List.getElem?_toArray, List.getElem?_cons_succ, List.getElem?_cons_zero]; rfl) (by kernel_rfl) (by kernel_rfl) (by kernel_rfl) (by intro _ _ _ h; exact h) (Or.inr ⟨by rfl, rfl⟩) (by assumption) ?_
          try simp only [Act.put, List.setIfInBounds_toArray, List.set_cons_zero, List.set_cons_succ]
          refine wpAnyH_take (i := 10) (v := undef) (by simp only [List.getElem?_toArray, List.getElem?_cons_succ, List.getElem?_cons_zero]; rfl) (by kernel_rfl) (by kernel_rfl) (by kernel_rfl) (by intro _ _ _ h; exact h) (Or.inr ⟨by rfl, rfl⟩) (by assumption) ?_
          try simp only [Act.put, List.setIfInBounds_toArray, List.set_cons_zero, List.set_cons_succ]
          refine wpAnyH_take (i := 11) (v := undef) (by simp only [List.getElem?_toArray, List.getElem?_cons_succ, List.getElem?_cons_zero]; rfl) (by kernel_rfl) (by kernel_rfl) (by kernel_rfl) (by intro _ _ _ h; exact h) (Or.inr ⟨by rfl, rfl⟩) (by assumption) ?_
          try simp only [Act.put, List.setIfInBounds_toArray, List.set_cons_zero, List.set_cons_succ]
          refine wpAnyH_take (i := 12) (v := undef) (by simp only [List.getElem?_toArray, List.getElem?_cons_succ, List.getElem?_cons_zero]; rfl) (by kernel_rfl) (by kernel_rfl) (by kernel_rfl) (by intro _ _ _ h; exact h) (Or.inr ⟨by rfl, rfl⟩) (by assumption) ?_
          try simp only [Act.put, List.setIfInBounds_toArray, List.set_cons_zero, List.set_cons_succ]
          refine wpAnyH_take (i := 13) (v := undef) (by simp only [List.getElem?_toArray, List.getElem?_cons_succ, List.getElem?_cons_zero]; rfl) (by kernel_rfl) (by kernel_rfl) (by kernel_rfl) (by intro _ _ _ h; exact h) (Or.inr ⟨by rfl, rfl⟩) (by assumption) ?_
          try simp only [Act.put, List.setIfInBounds_toArray, List.set_cons_zero, List.set_cons_succ]
          refine wpAnyH_take (i := 14) (v := undef) (by simp only [List.getElem?_toArray, List.getElem?_cons_succ, List.getElem?_cons_zero]; rfl) (by kernel_rfl) (by kernel_rfl) (by kernel_rfl) (by intro _ _ _ h; exact h) (Or.inr ⟨by rfl, rfl⟩) (by assumption) ?_
          try simp only [Act.put, List.setIfInBounds_toArray, List.set_cons_zero, List.set_cons_succ]
          refine wpAnyH_take (i := 15) (v := undef) (by simp only [List.getElem?_toArray, List.getElem?_cons_succ, List.getElem?_cons_zero]; rfl) (by kernel_rfl) (by kernel_rfl) (by kernel_rfl) (by intro _ _ _ h; exact h) (Or.inr ⟨by rfl, rfl⟩) (by assumption) ?_
          try simp only [Act.put, List.setIfInBounds_toArray, List.set_cons_zero, List.set_cons_succ]
          refine wpAnyH_take (i := 16) (v := undef) (by simp only [List.getElem?_toArray, List.getElem?_cons_succ, List.getElem?_cons_zero]; rfl) (by kernel_rfl) (by kernel_rfl) (by kernel_rfl) (by intro _ _ _ h; exact h) (Or.inr ⟨by rfl, rfl⟩) (by assumption) ?_
          try simp only [Act.put, List.setIfInBounds_toArray, List.set_cons_zero, List.set_cons_succ]
          refine wpAnyH_take (i := 17) (v := undef) (by simp only [List.getElem?_toArray, List.getElem?_cons_succ, List.getElem?_cons_zero]; rfl) (by kernel_rfl) (by kernel_rfl) (by kernel_rfl) (by intro _ _ _ h; exact h) (Or.inr ⟨by rfl, rfl⟩) (by assumption) ?_
          try simp only [Act.put, List.setIfInBounds_toArray, List.set_cons_zero, List.set_cons_succ]
          refine wpAnyH_take (i := 18) (v := ?_) (by simp only [List.getElem?_toArray, List.getElem?_cons_succ, List.getElem?_cons_zero]; rfl) (by kernel_rfl) (by kernel_rfl) (by kernel_rfl) (by intro _ _ _ h; exact h) (Or.inl ⟨by rfl, ?_⟩) (by assumption) ?_
          rotate_left
          · intro w' hSw; go_simp; (try with_reducible rfl)
          try simp only [Act.put, List.setIfInBounds_toArray, List.set_cons_zero, List.set_cons_succ]
          refine wpAnyH_take (i := 19) (v := ?_) (by simp only [List.getElem?_toArray, List.getElem?_cons_succ, List.getElem?_cons_zero]; rfl) (by kernel_rfl) (by kernel_rfl) (by kernel_rfl) (by intro _ _ _ h; exact h) (Or.inl ⟨by rfl, ?_⟩) (by assumption) ?_
          rotate_left
          · intro w' hSw; go_simp; (try with_reducible rfl)
          try simp only [Act.put, List.setIfInBounds_toArray, List.set_cons_zero, List.set_cons_succ]
          refine wpAnyH_done (by kernel_rfl) ?_ _
          clear hHeld
          go_wp2_with fail
          have bd := (Below.refl w2.heap.size w2).drew
          have Q1 := hid (Z1.out.below bd)
          have Q2 := hid (Z2.out.below bd)
          have Q3 := hid (H5.out.below bd)
          have Q5 := hid (K5.out.below bd)
          have Q4 := hid (B5.out.trans (bd.mono B5.out.size))
          refine wp_region_held_drew (S := (fun w9 => Bx w9 h #[.slice none 0 0, .map (some mb), .int .u64 sd, .int .u32 0] 56 ∧ Bx w9 g #[.string s, .int .u32 x] 77)) (by kernel_rfl) ⟨Q3.out.bx, Q2.out⟩ (fun hHeld => ?_)
          clear bd Z1 Z2 H5 K5 B5
          generalize w2.drew = w5 at *
          refine wpAnyH_take (i := 0) (v := ?_) (by simp only [List.getElem?_toArray, List.getElem?_cons_succ, List.getElem?_cons_zero]; rfl) (by kernel_rfl) (by kernel_rfl) (by kernel_rfl) (by intro _ _ _ h; exact h) (Or.inl ⟨by rfl, ?_⟩) (by assumption) ?_
          rotate_left
          · intro w' hSw; go_simp; (try with_reducible rfl)
          try simp only [Act.put, List.setIfInBounds_toArray, List.set_cons_zero, List.set_cons_succ]
          refine wpAnyH_take (i := 1) (v := ?_) (by simp only [List.getElem?_toArray, List.getElem?_cons_succ, List.getElem?_cons_zero]; rfl) (by kernel_rfl) (by kernel_rfl) (by kernel_rfl) (by intro _ _ _ h; exact h) (Or.inl ⟨by rfl, ?_⟩) (by assumption) ?_
          rotate_left
          · intro w' hSw; go_simp; (try with_reducible rfl)
          try simp only [Act.put, List.setIfInBounds_toArray, List.set_cons_zero, List.set_cons_succ]
          refine wpAnyH_take (i := 2) (v := ?_) (by simp only [List.getElem?_toArray, List.getElem?_cons_succ, List.getElem?_cons_zero]; rfl) (by kernel_rfl) (by kernel_rfl) (by kernel_rfl) (by intro _ _ _ h; exact h) (Or.inl ⟨by rfl, ?_⟩) (by assumption) ?_
          rotate_left
          · intro w' hSw; go_simp; (try with_reducible rfl)
          try simp only [Act.put, List.setIfInBounds_toArray, List.set_cons_zero, List.set_cons_succ]
          refine wpAnyH_take (i := 3) (v := ?_) (by simp only [List.getElem?_toArray, List.getElem?_cons_succ, List.getElem?_cons_zero]; rfl) (by kernel_rfl) (by kernel_rfl) (by kernel_rfl) (by intro _ _ _ h; exact h) (Or.inl ⟨by rfl, ?_⟩) (by assumption) ?_
          rotate_left
          · intro w' hSw; have q0 := hSw.1.cell 1; simp at q0; go_simp; (try with_reducible rfl)
          try simp only [Act.put, List.setIfInBounds_toArray, List.set_cons_zero, List.set_cons_succ]
          refine wpAnyH_take (i := 4) (v := ?_) (by simp only [List.getElem?_toArray, List.getElem?_cons_succ, List.getElem?_cons_zero]; rfl) (by kernel_rfl) (by kernel_rfl) (by kernel_rfl) (by intro _ _ _ h; exact h) (Or.inl ⟨by rfl, ?_⟩) (by assumption) ?_
          rotate_left
          · intro w' hSw; go_simp; (try with_reducible rfl)
          try simp only [Act.put, List.setIfInBounds_toArray, List.set_cons_zero, List.set_cons_succ]
          refine wpAnyH_take (i := 5) (v := ?_) (by simp only [List.getElem?_toArray, List.getElem?_cons_succ, List.getElem?_cons_zero]; rfl) (by kernel_rfl) (by kernel_rfl) (by kernel_rfl) (by intro _ _ _ h; exact h) (Or.inl ⟨by rfl, ?_⟩) (by assumption) ?_
          rotate_left
          · intro w' hSw; have q0 := hSw.2.cell 0; simp at q0; go_simp; (try with_reducible rfl)
          try simp only [Act.put, List.setIfInBounds_toArray, List.set_cons_zero, List.set_cons_succ]
          refine wpAnyH_take (i := 6) (v := ?_) (by simp only [List.getElem?_toArray, List.getElem?_cons_succ, List.getElem?_cons_zero]; rfl) (by kernel_rfl) (by kernel_rfl) (by kernel_rfl) (by intro _ _ _ h; exact h) (Or.inl ⟨by rfl, ?_⟩) (by assumption) ?_
          rotate_left
          · intro w' hSw; go_simp; (try with_reducible rfl)
          try simp only [Act.put, List.setIfInBounds_toArray, List.set_cons_zero, List.set_cons_succ]
          refine wpAnyH_take (i := 7) (v := ?_) (by simp only [List.getElem?_toArray, List.getElem?_cons_succ, List.getElem?_cons_zero]; rfl) (by kernel_rfl) (by kernel_rfl) (by kernel_rfl) (by intro _ _ _ h; exact h) (Or.inl ⟨by rfl, ?_⟩) (by assumption) ?_
          rotate_left
          · intro w' hSw; have q0 := hSw.2.cell 1; simp at q0; go_simp; (try with_reducible rfl)
          try simp only [Act.put, List.setIfInBounds_toArray, List.set_cons_zero, List.set_cons_succ]
          obtain ⟨w6, hup, hg6, hsz, hm, hmk⟩ := update2 (P := Tryz.prog) Q3.out.mp Q5.out Tryz.underlying54 Tryz.underlying9 s (.int .u32 x)
          have G6 := hid hg6
          have M6 := hid hm
          have K6 := hid hmk
          clear hg6 hm hmk hsz hHeld
          have hne := hid Q3.out.ne
          have hgm := hid (show g ≠ mb from fun e => by have h8 := Q2.out; obtain ⟨es, c, h9, -⟩ := Q3.out.mp; unfold Bx at h8; rw [e, h9] at h8; cases h8)
          refine wpAnyH_ready (rs := [8]) (by kernel_rfl) (by simp) ?_
          refine AllReadyH.cons (by simp only [List.getElem?_toArray, List.getElem?_cons_succ, List.getElem?_cons_zero]; rfl) (fun K hK => ?_) AllReadyH.nil
          go_wp2_with fail
          refine hK.out _ _ (show (fun w9 => Bx w9 h #[.slice none 0 0, .map (some mb), .int .u64 sd, .int .u32 0] 56 ∧ Bx w9 g #[.string s, .int .u32 x] 77) w6 from ⟨Q3.out.bx.on G6.out (fun e => hne.out.1 (by simpa using e)), Q2.out.on G6.out (fun e => hgm.out (by simpa using e))⟩) (fun hHeld => ?_)
          clear hK K hHeld hup
          try simp only [Act.put, List.setIfInBounds_toArray, List.set_cons_zero, List.set_cons_succ]
          refine wpAnyH_done (by kernel_rfl) ?_ _
          go_wp2_with fail
          refine ⟨⟨k + 1, by omega, by go_num, hid fun i hi => ?_, hid (Q4.out.grown G6.out Q4.out.size (fun q8 h8 => by simp only [Option.some.injEq] at h8; have := hq.out; omega)), hid (Q1.out.on G6.out (fun e => by simp only [Option.some.injEq] at e; have := hq.out; omega)), hid ⟨Q3.out.bx.on G6.out (fun e => hne.out.1 (by simpa using e)), World.ownsRow_nil _ _ _ _, ?_, Q3.out.lo, Q3.out.sd, Q3.out.ck, Q3.out.cl, ?_⟩, K6⟩, by simp only [intOf]; omega⟩
          · rcases Nat.lt_or_eq_of_le (Nat.le_of_lt_succ hi) with h8 | h8
            · exact hz.out i h8
            · rw [h8]; exact hyes.out
          · rw [← hPut.out hyes.out]; exact M6.out
          · rw [List.length_take]; omega
        · have g3 : (0 < k) = True := eq_true (by omega)
          have g1 : ((0 : Int) < (k : Int)) = True := eq_true (by omega)
          have g2 : ((k : Int) - 1) = ((k - 1 : Nat) : Int) := by omega
          have hk0 : Hid (decide (k = 0) = false) := hid (by simp; omega)
          have hkm : k - 1 < n := by omega
          have g4 : IntKind.i64.wrap ((k - 1 : Nat) : Int) = ((k - 1 : Nat) : Int) := IntWalk.i64_in _ (by omega)
          have g5 : ((k - 1 : Nat) : Int) < (n : Int) := by omega
          cases hl : Op.bytesLess s0.toList s.toList
          · have hno : Hid (okAt l k = false) := by unfold Hid; rw [hOk.out, hnb, hk0.out, hl]; rfl
            have hL := hid (less_yes hl)
            clear hl
            rcases hL.out with hl | ⟨hl, hl2⟩ <;> clear hL <;>
            · have c26 : Hid (∀ w, Calls Tryz.prog 26 #[.string s] w fun e w' => e = .returned (.bool true) ∧ Below w.heap.size w w') := hid (fun w => hnb ▸ nameMay26' s w)
              refine wp_region_held_drew (S := (fun w9 => Bx w9 w.heap.size #[.slice co m cc, .slice (some ⟨b, off, none⟩) n vc, .int .u64 sd, .int .u32 ck] 45 ∧ Bx w9 g #[.string s, .int .u32 x] 77 ∧ w9.cell? ⟨b, off + (k - 1) * 2, none⟩ = some (.string s0))) (by kernel_rfl) ⟨Y1.out, Y2.out, Y3.out⟩ (fun hHeld => ?_)
              clear Y3 bd
              generalize w3.drew = w4 at *
              refine wpAnyH_take (i := 0) (v := ?_) (by simp only [List.getElem?_toArray, List.getElem?_cons_succ, List.getElem?_cons_zero]; rfl) (by kernel_rfl) (by kernel_rfl) (by kernel_rfl) (by intro _ _ _ h; exact h) (Or.inl ⟨by rfl, ?_⟩) (by assumption) ?_
              rotate_left
              · intro w' hSw; go_simp; (try with_reducible rfl)
              try simp only [Act.put, List.setIfInBounds_toArray, List.set_cons_zero, List.set_cons_succ]
              refine wpAnyH_take (i := 1) (v := ?_) (by simp only [List.getElem?_toArray, List.getElem?_cons_succ, List.getElem?_cons_zero]; rfl) (by kernel_rfl) (by kernel_rfl) (by kernel_rfl) (by intro _ _ _ h; exact h) (Or.inl ⟨by rfl, ?_⟩) (by assumption) ?_
              rotate_left
              · intro w' hSw; have q0 := hSw.2.1.cell 0; simp at q0; go_simp; (try with_reducible rfl)
              try simp only [Act.put, List.setIfInBounds_toArray, List.set_cons_zero, List.set_cons_succ]
              refine wpAnyH_ready (rs := [2]) (by kernel_rfl) (by simp) ?_
              refine AllReadyH.cons (by simp only [List.getElem?_toArray, List.getElem?_cons_succ, List.getElem?_cons_zero]; rfl) (fun K hK => ?_) AllReadyH.nil
              go_simp
              go_at_call 26
              refine (c26.out _).mono ?_
              rintro e w2 ⟨rfl, hb5⟩
              have hk := (show (fun w9 => Bx w9 w.heap.size #[.slice co m cc, .slice (some ⟨b, off, none⟩) n vc, .int .u64 sd, .int .u32 ck] 45 ∧ Bx w9 g #[.string s, .int .u32 x] 77 ∧ w9.cell? ⟨b, off + (k - 1) * 2, none⟩ = some (.string s0)) w2 from ⟨hHeld.1.below hb5, hHeld.2.1.below hb5, cell_on hHeld.2.2 hb5⟩)
              have B5 := hid (B4.out.trans (hb5.mono B4.out.size))
              have H5 := hid (H4.out.below hb5)
              have K5 := hid (K4.out.below hb5)
              have Z1 := hid (Y1.out.below hb5)
              have Z2 := hid (Y2.out.below hb5)
              clear B4 H4 K4 Y1 Y2 hb5 c26
              clear hHeld
              go_wp2_with fail
              refine hK.out _ _ hk (fun hHeld => ?_)
              clear hK K hk
              try simp only [Act.put, List.setIfInBounds_toArray, List.set_cons_zero, List.set_cons_succ]
              refine wpAnyH_take (i := 3) (v := ?_) (by simp only [List.getElem?_toArray, List.getElem?_cons_succ, List.getElem?_cons_zero]; rfl) (by kernel_rfl) (by kernel_rfl) (by kernel_rfl) (by intro _ _ _ h; exact h) (Or.inl ⟨by rfl, ?_⟩) (by assumption) ?_
              rotate_left
              · intro w' hSw; go_simp; (try with_reducible rfl)
              try simp only [Act.put, List.setIfInBounds_toArray, List.set_cons_zero, List.set_cons_succ]
              refine wpAnyH_take (i := 4) (v := ?_) (by simp only [List.getElem?_toArray, List.getElem?_cons_succ, List.getElem?_cons_zero]; rfl) (by kernel_rfl) (by kernel_rfl) (by kernel_rfl) (by intro _ _ _ h; exact h) (Or.inl ⟨by rfl, ?_⟩) (by assumption) ?_
              rotate_left
              · intro w' hSw; go_simp; (try with_reducible rfl)
              try simp only [Act.put, List.setIfInBounds_toArray, List.set_cons_zero, List.set_cons_succ]
              refine wpAnyH_take (i := 5) (v := ?_) (by simp only [List.getElem?_toArray, List.getElem?_cons_succ, List.getElem?_cons_zero]; rfl) (by kernel_rfl) (by kernel_rfl) (by kernel_rfl) (by intro _ _ _ h; exact h) (Or.inl ⟨by rfl, ?_⟩) (by assumption) ?_
              rotate_left
              · intro w' hSw; go_simp; (try with_reducible rfl)
              try simp only [Act.put, List.setIfInBounds_toArray, List.set_cons_zero, List.set_cons_succ]
              refine wpAnyH_take (i := 6) (v := ?_) (by simp only [List.getElem?_toArray, List.getElem?_cons_succ, List.getElem?_cons_zero]; rfl) (by kernel_rfl) (by kernel_rfl) (by kernel_rfl) (by intro _ _ _ h; exact h) (Or.inl ⟨by rfl, ?_⟩) (by assumption) ?_
              rotate_left
              · intro w' hSw; go_simp; (try with_reducible rfl)
              try simp only [Act.put, List.setIfInBounds_toArray, List.set_cons_zero, List.set_cons_succ]
              refine wpAnyH_take (i := 7) (v := ?_) (by simp only [List.getElem?_toArray, List.getElem?_cons_succ, List.getElem?_cons_zero]; rfl) (by kernel_rfl) (by kernel_rfl) (by kernel_rfl) (by intro _ _ _ h; exact h) (Or.inl ⟨by rfl, ?_⟩) (by assumption) ?_
              rotate_left
              · intro w' hSw; go_simp; (try with_reducible rfl)
              try simp only [Act.put, List.setIfInBounds_toArray, List.set_cons_zero, List.set_cons_succ]
              refine wpAnyH_take (i := 8) (v := ?_) (by simp only [List.getElem?_toArray, List.getElem?_cons_succ, List.getElem?_cons_zero]; rfl) (by kernel_rfl) (by kernel_rfl) (by kernel_rfl) (by intro _ _ _ h; exact h) (Or.inl ⟨by rfl, ?_⟩) (by assumption) ?_
              rotate_left
              · intro w' hSw; go_simp; (try with_reducible rfl)
              try simp only [Act.put, List.setIfInBounds_toArray, List.set_cons_zero, List.set_cons_succ]
              refine wpAnyH_take (i := 9) (v := ?_) (by simp only [List.getElem?_toArray, List.getElem?_cons_succ, List.getElem?_cons_zero]; rfl) (by kernel_rfl) (by kernel_rfl) (by kernel_rfl) (by intro _ _ _ h; exact h) (Or.inl ⟨by rfl, ?_⟩) (by assumption) ?_
              rotate_left
              · intro w' hSw; have q0 := hSw.2.1.cell 0; simp at q0; go_simp; (try with_reducible rfl)
              try simp only [Act.put, List.setIfInBounds_toArray, List.set_cons_zero, List.set_cons_succ]
              refine wpAnyH_take (i := 10) (v := ?_) (by simp only [List.getElem?_toArray, List.getElem?_cons_succ, List.getElem?_cons_zero]; rfl) (by kernel_rfl) (by kernel_rfl) (by kernel_rfl) (by intro _ _ _ h; exact h) (Or.inl ⟨by rfl, ?_⟩) (by assumption) ?_
              rotate_left
              · intro w' hSw; go_simp; (try with_reducible rfl)
              try simp only [Act.put, List.setIfInBounds_toArray, List.set_cons_zero, List.set_cons_succ]
              refine wpAnyH_take (i := 11) (v := ?_) (by simp only [List.getElem?_toArray, List.getElem?_cons_succ, List.getElem?_cons_zero]; rfl) (by kernel_rfl) (by kernel_rfl) (by kernel_rfl) (by intro _ _ _ h; exact h) (Or.inl ⟨by rfl, ?_⟩) (by assumption) ?_
              rotate_left
              · intro w' hSw; have q1 := hSw.1.cell 1; simp at q1; go_simp; (try with_reducible rfl)
              try simp only [Act.put, List.setIfInBounds_toArray, List.set_cons_zero, List.set_cons_succ]
              refine wpAnyH_take (i := 12) (v := ?_) (by simp only [List.getElem?_toArray, List.getElem?_cons_succ, List.getElem?_cons_zero]; rfl) (by kernel_rfl) (by kernel_rfl) (by kernel_rfl) (by intro _ _ _ h; exact h) (Or.inl ⟨by rfl, ?_⟩) (by assumption) ?_
              rotate_left
              · intro w' hSw; go_simp; (try with_reducible rfl)
              try simp only [Act.put, List.setIfInBounds_toArray, List.set_cons_zero, List.set_cons_succ]
              refine wpAnyH_take (i := 13) (v := ?_) (by simp only [List.getElem?_toArray, List.getElem?_cons_succ, List.getElem?_cons_zero]; rfl) (by kernel_rfl) (by kernel_rfl) (by kernel_rfl) (by intro _ _ _ h; exact h) (Or.inl ⟨by rfl, ?_⟩) (by assumption) ?_
              rotate_left
              · intro w' hSw; go_simp; (try with_reducible rfl)
              try simp only [Act.put, List.setIfInBounds_toArray, List.set_cons_zero, List.set_cons_succ]
              refine wpAnyH_take (i := 14) (v := ?_) (by simp only [List.getElem?_toArray, List.getElem?_cons_succ, List.getElem?_cons_zero]; rfl) (by kernel_rfl) (by kernel_rfl) (by kernel_rfl) (by intro _ _ _ h; exact h) (Or.inl ⟨by rfl, ?_⟩) (by assumption) ?_
              rotate_left
              · intro w' hSw; go_simp; (try with_reducible rfl)
              try simp only [Act.put, List.setIfInBounds_toArray, List.set_cons_zero, List.set_cons_succ]
              refine wpAnyH_take (i := 15) (v := ?_) (by simp only [List.getElem?_toArray, List.getElem?_cons_succ, List.getElem?_cons_zero]; rfl) (by kernel_rfl) (by kernel_rfl) (by kernel_rfl) (by intro _ _ _ h; exact h) (Or.inl ⟨by rfl, ?_⟩) (by assumption) ?_
              rotate_left
              · intro w' hSw; go_simp; (try with_reducible rfl)
              try simp only [Act.put, List.setIfInBounds_toArray, List.set_cons_zero, List.set_cons_succ]
              refine wpAnyH_take (i := 16) (v := ?_) (by simp only [List.getElem?_toArray, List.getElem?_cons_succ, List.getElem?_cons_zero]; rfl) (by kernel_rfl) (by kernel_rfl) (by kernel_rfl) (by intro _ _ _ h; exact h) (Or.inl ⟨by rfl, ?_⟩) (by assumption) ?_
              rotate_left
              · intro w' hSw; have q2 := hSw.2.2; go_simp; (try with_reducible rfl)
              try simp only [Act.put, List.setIfInBounds_toArray, List.set_cons_zero, List.set_cons_succ]
              refine wpAnyH_take (i := 17) (v := ?_) (by simp only [List.getElem?_toArray, List.getElem?_cons_succ, List.getElem?_cons_zero]; rfl) (by kernel_rfl) (by kernel_rfl) (by kernel_rfl) (by intro _ _ _ h; exact h) (Or.inl ⟨by rfl, ?_⟩) (by assumption) ?_
              rotate_left
              · intro w' hSw; go_simp; (try with_reducible rfl)
              try simp only [Act.put, List.setIfInBounds_toArray, List.set_cons_zero, List.set_cons_succ]
              refine wpAnyH_take (i := 18) (v := ?_) (by simp only [List.getElem?_toArray, List.getElem?_cons_succ, List.getElem?_cons_zero]; rfl) (by kernel_rfl) (by kernel_rfl) (by kernel_rfl) (by intro _ _ _ h; exact h) (Or.inl ⟨by rfl, ?_⟩) (by assumption) ?_
              rotate_left
              · intro w' hSw; go_simp; (try with_reducible rfl)
              try simp only [Act.put, List.setIfInBounds_toArray, List.set_cons_zero, List.set_cons_succ]
              refine wpAnyH_take (i := 19) (v := ?_) (by simp only [List.getElem?_toArray, List.getElem?_cons_succ, List.getElem?_cons_zero]; rfl) (by kernel_rfl) (by kernel_rfl) (by kernel_rfl) (by intro _ _ _ h; exact h) (Or.inl ⟨by rfl, ?_⟩) (by assumption) ?_
              rotate_left
              · intro w' hSw; go_simp; (try with_reducible rfl)
              try simp only [Act.put, List.setIfInBounds_toArray, List.set_cons_zero, List.set_cons_succ]
              refine wpAnyH_done (by kernel_rfl) ?_ _
              clear hHeld
              go_wp2_with fail
              go_ret2
              refine ⟨B5.out, ?_⟩
              rw [may_no (k := k) (by have := hN.out; omega) hno.out]
              exact ⟨fun h => Bool.noConfusion h, fun _ => rfl⟩
          · have hyes : Hid (okAt l k = true) := by unfold Hid; rw [hOk.out, hnb, hl]; simp
            obtain ⟨hl1, hl2⟩ := less_no hl
            have c26 : Hid (∀ w, Calls Tryz.prog 26 #[.string s] w fun e w' => e = .returned (.bool true) ∧ Below w.heap.size w w') := hid (fun w => hnb ▸ nameMay26' s w)
            refine wp_region_held_drew (S := (fun w9 => Bx w9 w.heap.size #[.slice co m cc, .slice (some ⟨b, off, none⟩) n vc, .int .u64 sd, .int .u32 ck] 45 ∧ Bx w9 g #[.string s, .int .u32 x] 77 ∧ w9.cell? ⟨b, off + (k - 1) * 2, none⟩ = some (.string s0))) (by kernel_rfl) ⟨Y1.out, Y2.out, Y3.out⟩ (fun hHeld => ?_)
            clear Y3 bd
            generalize w3.drew = w4 at *
            refine wpAnyH_take (i := 0) (v := ?_) (by simp only [List.getElem?_toArray, List.getElem?_cons_succ, List.getElem?_cons_zero]; rfl) (by kernel_rfl) (by kernel_rfl) (by kernel_rfl) (by intro _ _ _ h; exact h) (Or.inl ⟨by rfl, ?_⟩) (by assumption) ?_
            rotate_left
            · intro w' hSw; go_simp; (try with_reducible rfl)
            try simp only [Act.put, List.setIfInBounds_toArray, List.set_cons_zero, List.set_cons_succ]
            refine wpAnyH_take (i := 1) (v := ?_) (by simp only [List.getElem?_toArray, List.getElem?_cons_succ, List.getElem?_cons_zero]; rfl) (by kernel_rfl) (by kernel_rfl) (by kernel_rfl) (by intro _ _ _ h; exact h) (Or.inl ⟨by rfl, ?_⟩) (by assumption) ?_
            rotate_left
            · intro w' hSw; have q0 := hSw.2.1.cell 0; simp at q0; go_simp; (try with_reducible rfl)
            try simp only [Act.put, List.setIfInBounds_toArray, List.set_cons_zero, List.set_cons_succ]
            refine wpAnyH_ready (rs := [2]) (by kernel_rfl) (by simp) ?_
            refine AllReadyH.cons (by simp only [List.getElem?_toArray, List.getElem?_cons_succ, List.getElem?_cons_zero]; rfl) (fun K hK => ?_) AllReadyH.nil
            go_simp
            go_at_call 26
            refine (c26.out _).mono ?_
            rintro e w2 ⟨rfl, hb5⟩
            have hk := (show (fun w9 => Bx w9 w.heap.size #[.slice co m cc, .slice (some ⟨b, off, none⟩) n vc, .int .u64 sd, .int .u32 ck] 45 ∧ Bx w9 g #[.string s, .int .u32 x] 77 ∧ w9.cell? ⟨b, off + (k - 1) * 2, none⟩ = some (.string s0)) w2 from ⟨hHeld.1.below hb5, hHeld.2.1.below hb5, cell_on hHeld.2.2 hb5⟩)
            have B5 := hid (B4.out.trans (hb5.mono B4.out.size))
            have H5 := hid (H4.out.below hb5)
            have K5 := hid (K4.out.below hb5)
            have Z1 := hid (Y1.out.below hb5)
            have Z2 := hid (Y2.out.below hb5)
            clear B4 H4 K4 Y1 Y2 hb5 c26
            clear hHeld
            go_wp2_with fail
            refine hK.out _ _ hk (fun hHeld => ?_)
            clear hK K hk
            try simp only [Act.put, List.setIfInBounds_toArray, List.set_cons_zero, List.set_cons_succ]
            refine wpAnyH_take (i := 3) (v := ?_) (by simp only [List.getElem?_toArray, List.getElem?_cons_succ, List.getElem?_cons_zero]; rfl) (by kernel_rfl) (by kernel_rfl) (by kernel_rfl) (by intro _ _ _ h; exact h) (Or.inl ⟨by rfl, ?_⟩) (by assumption) ?_
            rotate_left
            · intro w' hSw; go_simp; (try with_reducible rfl)
            try simp only [Act.put, List.setIfInBounds_toArray, List.set_cons_zero, List.set_cons_succ]
            refine wpAnyH_take (i := 4) (v := ?_) (by simp only [List.getElem?_toArray, List.getElem?_cons_succ, List.getElem?_cons_zero]; rfl) (by kernel_rfl) (by kernel_rfl) (by kernel_rfl) (by intro _ _ _ h; exact h) (Or.inl ⟨by rfl, ?_⟩) (by assumption) ?_
            rotate_left
            · intro w' hSw; go_simp; (try with_reducible rfl)
            try simp only [Act.put, List.setIfInBounds_toArray, List.set_cons_zero, List.set_cons_succ]
            refine wpAnyH_take (i := 5) (v := ?_) (by simp only [List.getElem?_toArray, List.getElem?_cons_succ, List.getElem?_cons_zero]; rfl) (by kernel_rfl) (by kernel_rfl) (by kernel_rfl) (by intro _ _ _ h; exact h) (Or.inl ⟨by rfl, ?_⟩) (by assumption) ?_
            rotate_left
            · intro w' hSw; go_simp; (try with_reducible rfl)
            try simp only [Act.put, List.setIfInBounds_toArray, List.set_cons_zero, List.set_cons_succ]
            refine wpAnyH_take (i := 6) (v := ?_) (by simp only [List.getElem?_toArray, List.getElem?_cons_succ, List.getElem?_cons_zero]; rfl) (by kernel_rfl) (by kernel_rfl) (by kernel_rfl) (by intro _ _ _ h; exact h) (Or.inl ⟨by rfl, ?_⟩) (by assumption) ?_
            rotate_left
            · intro w' hSw; go_simp; (try with_reducible rfl)
            try simp only [Act.put, List.setIfInBounds_toArray, List.set_cons_zero, List.set_cons_succ]
            refine wpAnyH_take (i := 7) (v := ?_) (by simp only [List.getElem?_toArray, List.getElem?_cons_succ, List.getElem?_cons_zero]; rfl) (by kernel_rfl) (by kernel_rfl) (by kernel_rfl) (by intro _ _ _ h; exact h) (Or.inl ⟨by rfl, ?_⟩) (by assumption) ?_
            rotate_left
            · intro w' hSw; go_simp; (try with_reducible rfl)
            try simp only [Act.put, List.setIfInBounds_toArray, List.set_cons_zero, List.set_cons_succ]
            refine wpAnyH_take (i := 8) (v := ?_) (by simp only [List.getElem?_toArray, List.getElem?_cons_succ, List.getElem?_cons_zero]; rfl) (by kernel_rfl) (by kernel_rfl) (by kernel_rfl) (by intro _ _ _ h; exact h) (Or.inl ⟨by rfl, ?_⟩) (by assumption) ?_
            rotate_left
            · intro w' hSw; go_simp; (try with_reducible rfl)
            try simp only [Act.put, List.setIfInBounds_toArray, List.set_cons_zero, List.set_cons_succ]
            refine wpAnyH_take (i := 9) (v := ?_) (by simp only [List.getElem?_toArray, List.getElem?_cons_succ, List.getElem?_cons_zero]; rfl) (by kernel_rfl) (by kernel_rfl) (by kernel_rfl) (by intro _ _ _ h; exact h) (Or.inl ⟨by rfl, ?_⟩) (by assumption) ?_
            rotate_left
            · intro w' hSw; have q0 := hSw.2.1.cell 0; simp at q0; go_simp; (try with_reducible rfl)
            try simp only [Act.put, List.setIfInBounds_toArray, List.set_cons_zero, List.set_cons_succ]
            refine wpAnyH_take (i := 10) (v := ?_) (by simp only [List.getElem?_toArray, List.getElem?_cons_succ, List.getElem?_cons_zero]; rfl) (by kernel_rfl) (by kernel_rfl) (by kernel_rfl) (by intro _ _ _ h; exact h) (Or.inl ⟨by rfl, ?_⟩) (by assumption) ?_
            rotate_left
            · intro w' hSw; go_simp; (try with_reducible rfl)
            try simp only [Act.put, List.setIfInBounds_toArray, List.set_cons_zero, List.set_cons_succ]
            refine wpAnyH_take (i := 11) (v := ?_) (by simp only [List.getElem?_toArray, List.getElem?_cons_succ, List.getElem?_cons_zero]; rfl) (by kernel_rfl) (by kernel_rfl) (by kernel_rfl) (by intro _ _ _ h; exact h) (Or.inl ⟨by rfl, ?_⟩) (by assumption) ?_
            rotate_left
            · intro w' hSw; have q1 := hSw.1.cell 1; simp at q1; go_simp; (try with_reducible rfl)
            try simp only [Act.put, List.setIfInBounds_toArray, List.set_cons_zero, List.set_cons_succ]
            refine wpAnyH_take (i := 12) (v := ?_) (by simp only [List.getElem?_toArray, List.getElem?_cons_succ, List.getElem?_cons_zero]; rfl) (by kernel_rfl) (by kernel_rfl) (by kernel_rfl) (by intro _ _ _ h; exact h) (Or.inl ⟨by rfl, ?_⟩) (by assumption) ?_
            rotate_left
            · intro w' hSw; go_simp; (try with_reducible rfl)
            try simp only [Act.put, List.setIfInBounds_toArray, List.set_cons_zero, List.set_cons_succ]
            refine wpAnyH_take (i := 13) (v := ?_) (by simp only [List.getElem?_toArray, List.getElem?_cons_succ, List.getElem?_cons_zero]; rfl) (by kernel_rfl) (by kernel_rfl) (by kernel_rfl) (by intro _ _ _ h; exact h) (Or.inl ⟨by rfl, ?_⟩) (by assumption) ?_
            rotate_left
            · intro w' hSw; go_simp; (try with_reducible rfl)
            try simp only [Act.put, List.setIfInBounds_toArray, List.set_cons_zero, List.set_cons_succ]
            refine wpAnyH_take (i := 14) (v := ?_) (by simp only [List.getElem?_toArray, List.getElem?_cons_succ, List.getElem?_cons_zero]; rfl) (by kernel_rfl) (by kernel_rfl) (by kernel_rfl) (by intro _ _ _ h; exact h) (Or.inl ⟨by rfl, ?_⟩) (by assumption) ?_
            rotate_left
            · intro w' hSw; go_simp; (try with_reducible rfl)
            try simp only [Act.put, List.setIfInBounds_toArray, List.set_cons_zero, List.set_cons_succ]
            refine wpAnyH_take (i := 15) (v := ?_) (by simp only [List.getElem?_toArray, List.getElem?_cons_succ, List.getElem?_cons_zero]; rfl) (by kernel_rfl) (by kernel_rfl) (by kernel_rfl) (by intro _ _ _ h; exact h) (Or.inl ⟨by rfl, ?_⟩) (by assumption) ?_
            rotate_left
            · intro w' hSw; go_simp; (try with_reducible rfl)
            try simp only [Act.put, List.setIfInBounds_toArray, List.set_cons_zero, List.set_cons_succ]
            refine wpAnyH_take (i := 16) (v := ?_) (by simp only [List.getElem?_toArray, List.getElem?_cons_succ, List.getElem?_cons_zero]; rfl) (by kernel_rfl) (by kernel_rfl) (by kernel_rfl) (by intro _ _ _ h; exact h) (Or.inl ⟨by rfl, ?_⟩) (by assumption) ?_
            rotate_left
            · intro w' hSw; have q2 := hSw.2.2; go_simp; (try with_reducible rfl)
            try simp only [Act.put, List.setIfInBounds_toArray, List.set_cons_zero, List.set_cons_succ]
            refine wpAnyH_take (i := 17) (v := ?_) (by simp only [List.getElem?_toArray, List.getElem?_cons_succ, List.getElem?_cons_zero]; rfl) (by kernel_rfl) (by kernel_rfl) (by kernel_rfl) (by intro _ _ _ h; exact h) (Or.inl ⟨by rfl, ?_⟩) (by assumption) ?_
            rotate_left
            · intro w' hSw; go_simp; (try with_reducible rfl)
            try simp only [Act.put, List.setIfInBounds_toArray, List.set_cons_zero, List.set_cons_succ]
            refine wpAnyH_take (i := 18) (v := ?_) (by simp only [List.getElem?_toArray, List.getElem?_cons_succ, List.getElem?_cons_zero]; rfl) (by kernel_rfl) (by kernel_rfl) (by kernel_rfl) (by intro _ _ _ h; exact h) (Or.inl ⟨by rfl, ?_⟩) (by assumption) ?_
            rotate_left
            · intro w' hSw; go_simp; (try with_reducible rfl)
            try simp only [Act.put, List.setIfInBounds_toArray, List.set_cons_zero, List.set_cons_succ]
            refine wpAnyH_take (i := 19) (v := ?_) (by simp only [List.getElem?_toArray, List.getElem?_cons_succ, List.getElem?_cons_zero]; rfl) (by kernel_rfl) (by kernel_rfl) (by kernel_rfl) (by intro _ _ _ h; exact h) (Or.inl ⟨by rfl, ?_⟩) (by assumption) ?_
            rotate_left
            · intro w' hSw; go_simp; (try with_reducible rfl)
            try simp only [Act.put, List.setIfInBounds_toArray, List.set_cons_zero, List.set_cons_succ]
            refine wpAnyH_done (by kernel_rfl) ?_ _
            clear hHeld
            go_wp2_with fail
            have bd := (Below.refl w2.heap.size w2).drew
            have Q1 := hid (Z1.out.below bd)
            have Q2 := hid (Z2.out.below bd)
            have Q3 := hid (H5.out.below bd)
            have Q5 := hid (K5.out.below bd)
            have Q4 := hid (B5.out.trans (bd.mono B5.out.size))
            refine wp_region_held_drew (S := (fun w9 => Bx w9 h #[.slice none 0 0, .map (some mb), .int .u64 sd, .int .u32 0] 56 ∧ Bx w9 g #[.string s, .int .u32 x] 77)) (by kernel_rfl) ⟨Q3.out.bx, Q2.out⟩ (fun hHeld => ?_)
            clear bd Z1 Z2 H5 K5 B5
            generalize w2.drew = w5 at *
            refine wpAnyH_take (i := 0) (v := ?_) (by simp only [List.getElem?_toArray, List.getElem?_cons_succ, List.getElem?_cons_zero]; rfl) (by kernel_rfl) (by kernel_rfl) (by kernel_rfl) (by intro _ _ _ h; exact h) (Or.inl ⟨by rfl, ?_⟩) (by assumption) ?_
            rotate_left
            · intro w' hSw; go_simp; (try with_reducible rfl)
            try simp only [Act.put, List.setIfInBounds_toArray, List.set_cons_zero, List.set_cons_succ]
            refine wpAnyH_take (i := 1) (v := ?_) (by simp only [List.getElem?_toArray, List.getElem?_cons_succ, List.getElem?_cons_zero]; rfl) (by kernel_rfl) (by kernel_rfl) (by kernel_rfl) (by intro _ _ _ h; exact h) (Or.inl ⟨by rfl, ?_⟩) (by assumption) ?_
            rotate_left
            · intro w' hSw; go_simp; (try with_reducible rfl)
            try simp only [Act.put, List.setIfInBounds_toArray, List.set_cons_zero, List.set_cons_succ]
            refine wpAnyH_take (i := 2) (v := ?_) (by simp only [List.getElem?_toArray, List.getElem?_cons_succ, List.getElem?_cons_zero]; rfl) (by kernel_rfl) (by kernel_rfl) (by kernel_rfl) (by intro _ _ _ h; exact h) (Or.inl ⟨by rfl, ?_⟩) (by assumption) ?_
            rotate_left
            · intro w' hSw; go_simp; (try with_reducible rfl)
            try simp only [Act.put, List.setIfInBounds_toArray, List.set_cons_zero, List.set_cons_succ]
            refine wpAnyH_take (i := 3) (v := ?_) (by simp only [List.getElem?_toArray, List.getElem?_cons_succ, List.getElem?_cons_zero]; rfl) (by kernel_rfl) (by kernel_rfl) (by kernel_rfl) (by intro _ _ _ h; exact h) (Or.inl ⟨by rfl, ?_⟩) (by assumption) ?_
            rotate_left
            · intro w' hSw; have q0 := hSw.1.cell 1; simp at q0; go_simp; (try with_reducible rfl)
            try simp only [Act.put, List.setIfInBounds_toArray, List.set_cons_zero, List.set_cons_succ]
            refine wpAnyH_take (i := 4) (v := ?_) (by simp only [List.getElem?_toArray, List.getElem?_cons_succ, List.getElem?_cons_zero]; rfl) (by kernel_rfl) (by kernel_rfl) (by kernel_rfl) (by intro _ _ _ h; exact h) (Or.inl ⟨by rfl, ?_⟩) (by assumption) ?_
            rotate_left
            · intro w' hSw; go_simp; (try with_reducible rfl)
            try simp only [Act.put, List.setIfInBounds_toArray, List.set_cons_zero, List.set_cons_succ]
            refine wpAnyH_take (i := 5) (v := ?_) (by simp only [List.getElem?_toArray, List.getElem?_cons_succ, List.getElem?_cons_zero]; rfl) (by kernel_rfl) (by kernel_rfl) (by kernel_rfl) (by intro _ _ _ h; exact h) (Or.inl ⟨by rfl, ?_⟩) (by assumption) ?_
            rotate_left
            · intro w' hSw; have q0 := hSw.2.cell 0; simp at q0; go_simp; (try with_reducible rfl)
            try simp only [Act.put, List.setIfInBounds_toArray, List.set_cons_zero, List.set_cons_succ]
            refine wpAnyH_take (i := 6) (v := ?_) (by simp only [List.getElem?_toArray, List.getElem?_cons_succ, List.getElem?_cons_zero]; rfl) (by kernel_rfl) (by kernel_rfl) (by kernel_rfl) (by intro _ _ _ h; exact h) (Or.inl ⟨by rfl, ?_⟩) (by assumption) ?_
            rotate_left
            · intro w' hSw; go_simp; (try with_reducible rfl)
            try simp only [Act.put, List.setIfInBounds_toArray, List.set_cons_zero, List.set_cons_succ]
            refine wpAnyH_take (i := 7) (v := ?_) (by simp only [List.getElem?_toArray, List.getElem?_cons_succ, List.getElem?_cons_zero]; rfl) (by kernel_rfl) (by kernel_rfl) (by kernel_rfl) (by intro _ _ _ h; exact h) (Or.inl ⟨by rfl, ?_⟩) (by assumption) ?_
            rotate_left
            · intro w' hSw; have q0 := hSw.2.cell 1; simp at q0; go_simp; (try with_reducible rfl)
            try simp only [Act.put, List.setIfInBounds_toArray, List.set_cons_zero, List.set_cons_succ]
            obtain ⟨w6, hup, hg6, hsz, hm, hmk⟩ := update2 (P := Tryz.prog) Q3.out.mp Q5.out Tryz.underlying54 Tryz.underlying9 s (.int .u32 x)
            have G6 := hid hg6
            have M6 := hid hm
            have K6 := hid hmk
            clear hg6 hm hmk hsz hHeld
            have hne := hid Q3.out.ne
            have hgm := hid (show g ≠ mb from fun e => by have h8 := Q2.out; obtain ⟨es, c, h9, -⟩ := Q3.out.mp; unfold Bx at h8; rw [e, h9] at h8; cases h8)
            refine wpAnyH_ready (rs := [8]) (by kernel_rfl) (by simp) ?_
            refine AllReadyH.cons (by simp only [List.getElem?_toArray, List.getElem?_cons_succ, List.getElem?_cons_zero]; rfl) (fun K hK => ?_) AllReadyH.nil
            go_wp2_with fail
            refine hK.out _ _ (show (fun w9 => Bx w9 h #[.slice none 0 0, .map (some mb), .int .u64 sd, .int .u32 0] 56 ∧ Bx w9 g #[.string s, .int .u32 x] 77) w6 from ⟨Q3.out.bx.on G6.out (fun e => hne.out.1 (by simpa using e)), Q2.out.on G6.out (fun e => hgm.out (by simpa using e))⟩) (fun hHeld => ?_)
            clear hK K hHeld hup
            try simp only [Act.put, List.setIfInBounds_toArray, List.set_cons_zero, List.set_cons_succ]
            refine wpAnyH_done (by kernel_rfl) ?_ _
            go_wp2_with fail
            refine ⟨⟨k + 1, by omega, by go_num, hid fun i hi => ?_, hid (Q4.out.grown G6.out Q4.out.size (fun q8 h8 => by simp only [Option.some.injEq] at h8; have := hq.out; omega)), hid (Q1.out.on G6.out (fun e => by simp only [Option.some.injEq] at e; have := hq.out; omega)), hid ⟨Q3.out.bx.on G6.out (fun e => hne.out.1 (by simpa using e)), World.ownsRow_nil _ _ _ _, ?_, Q3.out.lo, Q3.out.sd, Q3.out.ck, Q3.out.cl, ?_⟩, K6⟩, by simp only [intOf]; omega⟩
            · rcases Nat.lt_or_eq_of_le (Nat.le_of_lt_succ hi) with h8 | h8
              · exact hz.out i h8
              · rw [h8]; exact hyes.out
            · rw [← hPut.out hyes.out]; exact M6.out
            · rw [List.length_take]; omega
    · obtain rfl : k = n := by omega
      rename_i wr
      have hall := hid (may_all (l := l) fun i hi => hz.out i (by have := hN.out; omega))
      have c0' : wr.cell? ⟨w.heap.size, 0, none⟩ = some (.slice co m cc) := by simpa using X2.out.cell 0
      have hY2 := hid (hY.out.below B2.out)
      have c27 := hid (clone27 co m cc con hC.out wr hY2.out (by have := hM.out; omega))
      clear hz hV hY
      go_wp2_with fail
      go_at_call 27
      refine c27.out.mono ?_
      rintro e w2 ⟨cv, rfl, ho, hb2⟩
      obtain ⟨ao, cap, rfl, -⟩ := own_any_shape ho
      have O2 := hid ho
      have H3 := hid (H2.out.below hb2)
      have K3 := hid (K2.out.below hb2)
      have B3 := hid (B2.out.trans (hb2.mono B2.out.size))
      have X3 := X2.out.below hb2
      have c3' : w2.cell? ⟨w.heap.size, 3, none⟩ = some (.int .u32 ck) := by simpa using X3.cell 3
      have f0 := H3.out.bx.free 0
      have f3 := H3.out.bx.free 3
      have q3 : w2.cell? ⟨h, 3, none⟩ = some (.int .u32 0) := by simpa using H3.out.bx.cell 3
      have q0 : w2.cell? ⟨h, 0, none⟩ = some (.slice none 0 0) := by simpa using H3.out.bx.cell 0
      have hWr := hid (show mb ≤ wr.heap.size from Nat.le_of_lt H2.out.mp.lt)
      have hrb := hid (row_ne_box O2.out H3.out.bx (by decide))
      have hne := hid H3.out.ne
      have F := hid ((H3.out.bx.set 0 (.slice ao con.length cap)).set 3 (.int .u32 ck))
      have SG := hid (grown_trans (grown_set w2 h 0 (.slice ao con.length cap)) (grown_set _ h 3 (.int .u32 ck)))
      have hT := hid (List.take_of_length_le (show (vsA l).length ≤ k by rw [vsA_len, hN.out]; exact Nat.le_refl _))
      clear c27 ho hb2 H2 K2 B2 X2 X3 c0'
      go_wp2_with fail
      go_ret2
      rw [hall.out]
      refine ⟨B3.out.grown SG.out B3.out.size (fun q8 h8 => by simp only [Option.some.injEq] at h8; have := hq.out; omega), fun _ => ⟨h, _, mb, rfl, ⟨F.out, (own_base O2.out (by have := hq.out; have := hWr.out; omega)).kept SG.out (.inr hrb.out), ?_, by have := hq.out; omega, hSd.out, hCk.out, by have := hM.out; have := hC.out; omega, by rw [vsA_len, hN.out]; exact h2⟩, K3.out.on SG.out (fun e => hne.out.1 (by simpa using e.symm))⟩, fun h => Bool.noConfusion h⟩
      rw [← hT.out]
      exact H3.out.mp.on SG.out (fun e => hne.out.1 (by simpa using e.symm))
set_option maxHeartbeats 2000000 in
theorem load13 (co vo : Option Addr) (m n cc vc : Nat) (con : List UInt8) (hcl : con.length = m) (l : NW) (hl : l.length = n) (sd ck : Int) (w : World) (hv : Vr w vo l) (hb : By w co con) (h3 : 0 ≤ sd ∧ sd < 18446744073709551616) (h4 : 0 ≤ ck ∧ ck < 4294967296) :
    Calls Tryz.prog 13 #[.agg #[.slice co m cc, .slice vo n vc, .int .u64 sd, .int .u32 ck]] w fun e w' => Below w.heap.size w w' ∧ LoadR w.heap.size con l sd ck (mayB con l sd) e w' := by
  have hno : (m ≤ 4096 → n ≤ 32 → sd = 0) → Hid (mayB con l sd = false) := fun h => by
    unfold Hid mayB
    rw [hcl, hl]
    by_cases h1 : m ≤ 4096
    · by_cases h2 : n ≤ 32
      · rw [h h1 h2]; simp
      · rw [decide_eq_false h2]; simp
    · rw [decide_eq_false h1]; rfl
  by_cases h1 : m ≤ 4096
  · by_cases h2 : n ≤ 32
    · by_cases h5 : sd = 0
      · have hm := hno fun _ _ => h5
        have e1 : ((4096 : Int) < (m : Int)) = False := eq_false (by omega)
        have e2 : ((32 : Int) < (n : Int)) = False := eq_false (by omega)
        subst h5
        clear hv hno hb h3
        go_enter Tryz.func13, Tryz.ntmps13
        go_wp2_with fail
        go_ret2
        rw [hm.out]
        exact ⟨(Below.refl w.heap.size w).alloc (Nat.le_refl _) _, fun h => Bool.noConfusion h, fun _ => rfl⟩
      · have hm : mayB con l sd = (List.range l.length).all (okAt l) := by
          unfold mayB
          rw [hcl, hl]
          simp [h1, h2, h5]
        rw [hm]
        exact load13_loop co vo m n cc vc con hcl l hl sd ck w hv hb h1 h2 ⟨by omega, h3.2⟩ h4
    · have hm := hno fun _ h => absurd h h2
      have e1 : ((4096 : Int) < (m : Int)) = False := eq_false (by omega)
      have e2 : ((32 : Int) < (n : Int)) = True := eq_true (by omega)
      clear hv hno hb h3
      go_enter Tryz.func13, Tryz.ntmps13
      go_wp2_with fail
      go_ret2
      rw [hm.out]
      exact ⟨(Below.refl w.heap.size w).alloc (Nat.le_refl _) _, fun h => Bool.noConfusion h, fun _ => rfl⟩
  · have hm := hno fun h => absurd h h1
    have e1 : ((4096 : Int) < (m : Int)) = True := eq_true (by omega)
    clear hv hno hb h3
    go_enter Tryz.func13, Tryz.ntmps13
    go_wp2_with fail
    go_ret2
    rw [hm.out]
    exact ⟨(Below.refl w.heap.size w).alloc (Nat.le_refl _) _, fun h => Bool.noConfusion h, fun _ => rfl⟩

end Go.Proofs.YtmjholcpajfldaaGreatDoor
