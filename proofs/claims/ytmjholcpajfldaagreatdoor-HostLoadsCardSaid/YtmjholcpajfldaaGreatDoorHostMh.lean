/- Walks: the state of a host. No condition. -/
import Derived.Test.YtmjholcpajfldaaGreatDoorHostMl
namespace Go.Proofs.YtmjholcpajfldaaGreatDoor
open Go.RowKit
set_option linter.unusedVariables false
set_option linter.unusedSimpArgs false

set_option maxRecDepth 100000

theorem By.of_own {w : World} {B n cap : Nat} {ao : Option Addr} {con : List UInt8} (h : w.ownsRow B 5 1 (.slice ao n cap) con.length (bv con)) : By w ao con := by
  rcases h.2 with ⟨h1, h0⟩ | ⟨g, c, cur, h1, hg, hh, r⟩
  · simp only [Value.slice.injEq] at h1
    exact ⟨0, 0, .inl (by omega), fun i hi => by omega⟩
  · simp only [Value.slice.injEq] at h1
    obtain ⟨rfl, h2, h3⟩ := h1
    refine ⟨g, 0, .inr rfl, fun i hi => ?_⟩
    have h4 : w.ownsRow B 5 1 (.slice (some ⟨g, 0, none⟩) con.length c) con.length (bv con) := by rw [h2, h3] at h; exact h
    rw [Nat.zero_add, h4.cellAt i (by omega), bv_get con i hi]
/-- how many entries have been handed out -/
def seenN (w : World) (r : Nat) : Nat := match w.heap[r]? with | some (.mapIter _ _ seen _) => seen.size | _ => 0
theorem Vr.gr {w w' : World} {vo : Option Addr} {l : NW} {n c q : Nat} (h : Vr w vo l) (hg : w.grownBy w' (some q)) (hn : (Value.slice vo n c).ownBlock ≠ some q) : Vr w' vo l := by
  obtain ⟨b, off, h1, h2⟩ := h.cell
  refine ⟨⟨b, off, h1, fun i hi => ?_⟩, h.wf⟩
  obtain rfl := h1.resolve_left (by omega)
  have hne : some b ≠ some q := fun e => hn (by simpa [Value.ownBlock] using e)
  exact ⟨cell_gr hg (h2 i hi).1 hne, cell_gr hg (h2 i hi).2 hne⟩
open Go.ChangeMaps (setBlock)
theorem Ri.seen {w wr : World} {r mb c q2 : Nat} {es : Array MapEntry} {clk : Nat} {cvv v : Value} {con : List UInt8} {sd ck : Int} {T : List MapEntry} (h : Ri w wr r mb c q2 es clk cvv v con sd ck T) : seenN wr r = T.length := by
  unfold seenN
  rw [h.it]
  simp
theorem Ho.mb45 {w : World} {B h mb q : Nat} {cv : Value} {con : List UInt8} {vs : List (ByteArray × Value)} {sd ck : Int} {cs : Array Value} {t : TypeId} (hH : Ho w B h cv con mb vs sd ck) (hbx : Bx w q cs t) : mb ≠ q := fun e => by
  obtain ⟨es, c, h1, -⟩ := hH.mp
  unfold Bx at hbx
  rw [e, hbx] at h1
  cases h1
theorem Ho.keep45 {w w' : World} {B h mb q : Nat} {cv : Value} {con : List UInt8} {vs : List (ByteArray × Value)} {sd ck : Int} {cs : Array Value} (hH : Ho w B h cv con mb vs sd ck) (hbx : Bx w q cs 45) (hg : w.grownBy w' (some q)) : Ho w' B h cv con mb vs sd ck := by
  have hr := row_ne_box hH.own hbx (by decide)
  have hm := hH.mb45 hbx
  refine hH.kpt (T := fun b => b = q) (Kpt.gr hg (Nat.le_refl _) fun k e => by simp only [Option.some.injEq] at e; exact .inl e.symm) fun b hb e => ?_
  rcases hb with hb | hb | hb
  · have h1 := hH.bx
    unfold Bx at h1 hbx
    rw [← hb, e, hbx] at h1
    simp at h1
  · exact hm (hb.symm.trans e)
  · rw [e] at hb
    exact hr hb
set_option maxHeartbeats 16000000 in
theorem state20 {w : World} {B h mb : Nat} {cv : Value} {con : List UInt8} {l : NW} {sd ck : Int} (hH : Ho w B h cv con mb (vsA l) sd ck) (hK : Mb w mb) (hl : l.length ≤ 32) (hr : ∀ i, i < l.length → okAt l i = true) (hwf : ∀ i, i < l.length → 0 ≤ wdA l i ∧ wdA l i ≤ 4294967295) :
    Calls Tryz.prog 20 #[.pointer (some ⟨h, 0, none⟩)] w fun e w' => (∃ ao ac vo vc, e = .returned (.agg #[.slice ao con.length ac, .slice vo l.length vc, .int .u64 sd, .int .u32 ck]) ∧ By w' ao con ∧ Vr w' vo l) ∧ Below w.heap.size w w' := by
  have b0 := (Below.refl w.heap.size w).alloc (Nat.le_refl _) (.cells #[.slice none 0 0, .slice none 0 0, .int .u64 0, .int .u32 0] 45)
  have B0 := hid b0
  have R0 := hid (Bx.new w #[.slice none 0 0, .slice none 0 0, .int .u64 0, .int .u32 0] 45)
  have H0 := hid (hH.below b0)
  have K0 := hid (hK.below b0)
  have M0 := hid (made21 H0.out)
  have hL := hid hl
  have hR := hid hr
  have hWf := hid hwf
  clear b0 hH hK hl hr hwf
  go_enter Tryz.func20, Tryz.ntmps20
  go_wp2_with fail
  generalize hw1 : w.alloc (.cells #[.slice none 0 0, .slice none 0 0, .int .u64 0, .int .u32 0] 45) = w1 at *
  clear hw1
  go_at_call 21
  refine M0.out.mono ?_
  rintro e w1 ⟨rfl, rfl⟩
  clear M0
  obtain ⟨ao, cap, rfl, -⟩ := own_any_shape H0.out.own
  go_wp2_with fail
  have bd := (Below.refl w1.heap.size w1).drew
  have B2 := hid (B0.out.trans (bd.mono B0.out.size))
  have R2 := hid (R0.out.below bd)
  have H2 := hid (H0.out.below bd)
  have K2 := hid (K0.out.below bd)
  refine wp_region_held_drew (S := (fun w9 => Bx w9 h #[.slice ao con.length cap, .map (some mb), .int .u64 sd, .int .u32 ck] 56)) (by kernel_rfl) H2.out.bx (fun hHeld => ?_)
  clear bd B0 R0 H0 K0
  generalize w1.drew = w2 at *
  refine wpAnyH_take (i := 0) (v := ?_) (by simp only [List.getElem?_toArray, List.getElem?_cons_succ, List.getElem?_cons_zero]; rfl) (by kernel_rfl) (by kernel_rfl) (by kernel_rfl) (by intro _ _ _ h; exact h) (Or.inl ⟨by rfl, ?_⟩) (by assumption) ?_
  rotate_left
  · intro w' hSw; go_simp; (try with_reducible rfl)
  try simp only [Act.put, List.setIfInBounds_toArray, List.set_cons_zero, List.set_cons_succ]
  refine wpAnyH_take (i := 1) (v := ?_) (by simp only [List.getElem?_toArray, List.getElem?_cons_succ, List.getElem?_cons_zero]; rfl) (by kernel_rfl) (by kernel_rfl) (by kernel_rfl) (by intro _ _ _ h; exact h) (Or.inl ⟨by rfl, ?_⟩) (by assumption) ?_
  rotate_left
  · intro w' hSw; go_simp; (try with_reducible rfl)
  try simp only [Act.put, List.setIfInBounds_toArray, List.set_cons_zero, List.set_cons_succ]
  refine wpAnyH_take (i := 2) (v := ?_) (by simp only [List.getElem?_toArray, List.getElem?_cons_succ, List.getElem?_cons_zero]; rfl) (by kernel_rfl) (by kernel_rfl) (by kernel_rfl) (by intro _ _ _ h; exact h) (Or.inl ⟨by rfl, ?_⟩) (by assumption) ?_
  rotate_left
  · intro w' hSw; go_simp; (try with_reducible rfl)
  try simp only [Act.put, List.setIfInBounds_toArray, List.set_cons_zero, List.set_cons_succ]
  refine wpAnyH_take (i := 3) (v := ?_) (by simp only [List.getElem?_toArray, List.getElem?_cons_succ, List.getElem?_cons_zero]; rfl) (by kernel_rfl) (by kernel_rfl) (by kernel_rfl) (by intro _ _ _ h; exact h) (Or.inl ⟨by rfl, ?_⟩) (by assumption) ?_
  rotate_left
  · intro w' hSw; have q0 := hSw.cell 0; simp at q0; go_simp; (try with_reducible rfl)
  try simp only [Act.put, List.setIfInBounds_toArray, List.set_cons_zero, List.set_cons_succ]
  refine wpAnyH_take (i := 5) (v := ?_) (by simp only [List.getElem?_toArray, List.getElem?_cons_succ, List.getElem?_cons_zero]; rfl) (by kernel_rfl) (by kernel_rfl) (by kernel_rfl) (by intro _ _ _ h; exact h) (Or.inl ⟨by rfl, ?_⟩) (by assumption) ?_
  rotate_left
  · intro w' hSw; go_simp; (try with_reducible rfl)
  try simp only [Act.put, List.setIfInBounds_toArray, List.set_cons_zero, List.set_cons_succ]
  refine wpAnyH_take (i := 6) (v := ?_) (by simp only [List.getElem?_toArray, List.getElem?_cons_succ, List.getElem?_cons_zero]; rfl) (by kernel_rfl) (by kernel_rfl) (by kernel_rfl) (by intro _ _ _ h; exact h) (Or.inl ⟨by rfl, ?_⟩) (by assumption) ?_
  rotate_left
  · intro w' hSw; go_simp; (try with_reducible rfl)
  try simp only [Act.put, List.setIfInBounds_toArray, List.set_cons_zero, List.set_cons_succ]
  refine wpAnyH_take (i := 7) (v := ?_) (by simp only [List.getElem?_toArray, List.getElem?_cons_succ, List.getElem?_cons_zero]; rfl) (by kernel_rfl) (by kernel_rfl) (by kernel_rfl) (by intro _ _ _ h; exact h) (Or.inl ⟨by rfl, ?_⟩) (by assumption) ?_
  rotate_left
  · intro w' hSw; go_simp; (try with_reducible rfl)
  try simp only [Act.put, List.setIfInBounds_toArray, List.set_cons_zero, List.set_cons_succ]
  refine wpAnyH_take (i := 8) (v := ?_) (by simp only [List.getElem?_toArray, List.getElem?_cons_succ, List.getElem?_cons_zero]; rfl) (by kernel_rfl) (by kernel_rfl) (by kernel_rfl) (by intro _ _ _ h; exact h) (Or.inl ⟨by rfl, ?_⟩) (by assumption) ?_
  rotate_left
  · intro w' hSw; have q0 := hSw.cell 2; simp at q0; go_simp; (try with_reducible rfl)
  try simp only [Act.put, List.setIfInBounds_toArray, List.set_cons_zero, List.set_cons_succ]
  refine wpAnyH_take (i := 9) (v := ?_) (by simp only [List.getElem?_toArray, List.getElem?_cons_succ, List.getElem?_cons_zero]; rfl) (by kernel_rfl) (by kernel_rfl) (by kernel_rfl) (by intro _ _ _ h; exact h) (Or.inl ⟨by rfl, ?_⟩) (by assumption) ?_
  rotate_left
  · intro w' hSw; go_simp; (try with_reducible rfl)
  try simp only [Act.put, List.setIfInBounds_toArray, List.set_cons_zero, List.set_cons_succ]
  refine wpAnyH_take (i := 10) (v := ?_) (by simp only [List.getElem?_toArray, List.getElem?_cons_succ, List.getElem?_cons_zero]; rfl) (by kernel_rfl) (by kernel_rfl) (by kernel_rfl) (by intro _ _ _ h; exact h) (Or.inl ⟨by rfl, ?_⟩) (by assumption) ?_
  rotate_left
  · intro w' hSw; go_simp; (try with_reducible rfl)
  try simp only [Act.put, List.setIfInBounds_toArray, List.set_cons_zero, List.set_cons_succ]
  refine wpAnyH_take (i := 11) (v := ?_) (by simp only [List.getElem?_toArray, List.getElem?_cons_succ, List.getElem?_cons_zero]; rfl) (by kernel_rfl) (by kernel_rfl) (by kernel_rfl) (by intro _ _ _ h; exact h) (Or.inl ⟨by rfl, ?_⟩) (by assumption) ?_
  rotate_left
  · intro w' hSw; go_simp; (try with_reducible rfl)
  try simp only [Act.put, List.setIfInBounds_toArray, List.set_cons_zero, List.set_cons_succ]
  refine wpAnyH_take (i := 12) (v := ?_) (by simp only [List.getElem?_toArray, List.getElem?_cons_succ, List.getElem?_cons_zero]; rfl) (by kernel_rfl) (by kernel_rfl) (by kernel_rfl) (by intro _ _ _ h; exact h) (Or.inl ⟨by rfl, ?_⟩) (by assumption) ?_
  rotate_left
  · intro w' hSw; have q0 := hSw.cell 3; simp at q0; go_simp; (try with_reducible rfl)
  try simp only [Act.put, List.setIfInBounds_toArray, List.set_cons_zero, List.set_cons_succ]
  refine wpAnyH_ready (rs := [4, 14]) (by kernel_rfl) (by simp) ?_
  refine AllReadyH.cons (by simp only [List.getElem?_toArray, List.getElem?_cons_succ, List.getElem?_cons_zero]; rfl) (fun K hK => ?_) (AllReadyH.cons (by simp only [List.getElem?_toArray, List.getElem?_cons_succ, List.getElem?_cons_zero]; rfl) (fun K hK => ?_) AllReadyH.nil)
  · have c27 := hid (clone27 ao con.length cap con rfl w2 (By.of_own H2.out.own) (by have := H2.out.cl; omega))
    go_simp
    go_at_call 27
    refine c27.out.mono ?_
    rintro e w3 ⟨v', rfl, ho, hb3⟩
    obtain ⟨ao2, cap2, rfl, -⟩ := own_any_shape ho
    have O3 := hid (own_base ho (B2.out.size))
    have B3 := hid (B2.out.trans (hb3.mono B2.out.size))
    have R3 := hid (R2.out.below hb3)
    have H3 := hid (H2.out.below hb3)
    have K3 := hid (K2.out.below hb3)
    clear c27 ho hb3 hHeld B2 R2 H2 K2
    go_wp2_with fail
    refine hK.out _ _ (show (fun w9 => Bx w9 h #[.slice ao con.length cap, .map (some mb), .int .u64 sd, .int .u32 ck] 56) w3 from H3.out.bx) (fun hHeld => ?_)
    clear hK K
    try simp only [Act.put, List.setIfInBounds_toArray, List.set_cons_zero, List.set_cons_succ]
    refine wpAnyH_take (i := 13) (v := ?_) (by simp only [List.getElem?_toArray, List.getElem?_cons_succ, List.getElem?_cons_zero]; rfl) (by kernel_rfl) (by kernel_rfl) (by kernel_rfl) (by intro _ _ _ h; exact h) (Or.inl ⟨by rfl, ?_⟩) (by assumption) ?_
    rotate_left
    · intro w' hSw; go_simp; (try with_reducible rfl)
    try simp only [Act.put, List.setIfInBounds_toArray, List.set_cons_zero, List.set_cons_succ]
    have ba := (Below.refl w3.heap.size w3).alloc (Nat.le_refl _) (.cells #[.slice none 0 0, .slice none 0 0, .int .u64 0, .int .u32 0] 45)
    have C4 := hid (Bx.new w3 #[.slice none 0 0, .slice none 0 0, .int .u64 0, .int .u32 0] 45)
    have H4 := hid (H3.out.below ba)
    have K4 := hid (K3.out.below ba)
    have R4 := hid (R3.out.below ba)
    have B4 := hid (B3.out.trans (ba.mono B3.out.size))
    have hc4 := hid (show w.heap.size < w3.heap.size from Nat.lt_of_le_of_lt (Nat.le_refl _) R3.out.lt)
    have O4 := hid (O3.out.alloc (.cells #[.slice none 0 0, .slice none 0 0, .int .u64 0, .int .u32 0] 45))
    refine wpAnyH_ready (rs := [14]) (by kernel_rfl) (by simp) ?_
    refine AllReadyH.cons (by simp only [List.getElem?_toArray, List.getElem?_cons_succ, List.getElem?_cons_zero]; rfl) (fun K hK => ?_) AllReadyH.nil
    go_simp
    refine hK.out _ _ (show (fun w9 => Bx w9 h #[.slice ao con.length cap, .map (some mb), .int .u64 sd, .int .u32 ck] 56) _ from H4.out.bx) (fun hHeld => ?_)
    clear hK K hHeld ba B3 R3 H3 K3 O3
    try simp only [Act.put, List.setIfInBounds_toArray, List.set_cons_zero, List.set_cons_succ]
    generalize w3.alloc (.cells #[.slice none 0 0, .slice none 0 0, .int .u64 0, .int .u32 0] 45) = w4 at *
    generalize w3.heap.size = c at *
    have f0 := C4.out.free 0
    have f1 := C4.out.free 1
    have f2 := C4.out.free 2
    have f3 := C4.out.free 3
    have z0 := C4.out.cell 0
    have z1 := C4.out.cell 1
    have z2 := C4.out.cell 2
    have z3 := C4.out.cell 3
    simp only [List.getElem?_toArray, List.getElem?_cons_zero, List.getElem?_cons_succ] at z0 z1 z2 z3
    have SG := hid (grown_trans (grown_trans (grown_trans (grown_set w4 c 0 (.slice ao2 con.length cap2)) (grown_set _ c 1 (.slice none 0 0))) (grown_set _ c 2 (.int .u64 sd))) (grown_set _ c 3 (.int .u32 ck)))
    have C5 : Hid (Bx ((((w4.setCell ⟨c, 0, none⟩ (.slice ao2 con.length cap2)).setCell ⟨c, 1, none⟩ (.slice none 0 0)).setCell ⟨c, 2, none⟩ (.int .u64 sd)).setCell ⟨c, 3, none⟩ (.int .u32 ck)) c #[.slice ao2 con.length cap2, .slice none 0 0, .int .u64 sd, .int .u32 ck] 45) := hid (by simpa using (((C4.out.set 0 (.slice ao2 con.length cap2)).set 1 (.slice none 0 0)).set 2 (.int .u64 sd)).set 3 (.int .u32 ck))
    have H5 := hid (H4.out.keep45 C4.out SG.out)
    have K5 := hid (K4.out.on SG.out (fun e => H4.out.mb45 C4.out (by simpa using e)))
    have R5 := hid (R4.out.on SG.out (fun e => by simp only [Option.some.injEq] at e; have := hc4.out; omega))
    have O5 := hid (O4.out.kept SG.out (.inr (row_ne_box O4.out C4.out (by decide))))
    have B5 := hid (B4.out.grown SG.out B4.out.size (fun q8 h8 => by simp only [Option.some.injEq] at h8; have := hc4.out; omega))
    refine wpAnyH_ready (rs := [15]) (by kernel_rfl) (by simp) ?_
    refine AllReadyH.cons (by simp only [List.getElem?_toArray, List.getElem?_cons_succ, List.getElem?_cons_zero]; rfl) (fun K hK => ?_) AllReadyH.nil
    go_simp
    refine hK.out _ _ (show (fun w9 => Bx w9 h #[.slice ao con.length cap, .map (some mb), .int .u64 sd, .int .u32 ck] 56) _ from H5.out.bx) (fun hHeld => ?_)
    clear hK K hHeld SG B4 R4 H4 K4 O4 C4 z0 z1 z2 z3 f0 f1 f2 f3
    try simp only [Act.put, List.setIfInBounds_toArray, List.set_cons_zero, List.set_cons_succ]
    refine wpAnyH_done (by kernel_rfl) ?_ _
    generalize ((((w4.setCell ⟨c, 0, none⟩ (.slice ao2 con.length cap2)).setCell ⟨c, 1, none⟩ (.slice none 0 0)).setCell ⟨c, 2, none⟩ (.int .u64 sd)).setCell ⟨c, 3, none⟩ (.int .u32 ck)) = w5 at *
    have c1 := H5.out.bx.cell 1
    simp only [List.getElem?_toArray, List.getElem?_cons_zero, List.getElem?_cons_succ] at c1
    obtain ⟨es, clk, e1, e2⟩ := H5.out.mp
    obtain ⟨es2, clk2, e5, e3, e4⟩ := K5.out
    rw [e1] at e5
    simp only [Option.some.injEq, Obj.map.injEq] at e5
    obtain ⟨rfl, rfl⟩ := e5
    have hrg := run_range_map (P := Tryz.prog) w5 54 9 23 mb es clk Tryz.underlying54 e1
    have E1 := hid e1
    have E2 := hid e2
    have E3 := hid e3
    have E4 := hid e4
    clear e1 e2 e3 e4 K5
    go_wp2_with fail
    have L0 : Hid (Ri w _ w5.heap.size mb c w.heap.size es clk (.slice ao2 con.length cap2) (.slice none 0 0) con sd ck []) := hid ⟨heap_alloc_new w5 (.mapIter (some mb) clk #[] clk), ((Below.refl w5.heap.size w5).alloc (Nat.le_refl _) _).block mb (lt_of_block E1.out) |>.trans E1.out, C5.out.below ((Below.refl _ _).alloc (Nat.le_refl _) _), R5.out.below ((Below.refl _ _).alloc (Nat.le_refl _) _), O5.out.alloc _, World.ownsRow_nil _ _ _ _, fun e he => (List.not_mem_nil he).elim, List.nodup_nil, B5.out.alloc B5.out.size _, B5.out.size, by have := hc4.out; omega⟩
    obtain ⟨ee1, ee2⟩ := ent_at E2.out
    have EE1 := hid ee1
    have EE2 := hid ee2
    clear hrg C5 R5 O5 B5 E1 E2 H5 c1 ee1 ee2
    generalize w5.alloc (.mapIter (some mb) clk #[] clk) = w6 at *
    generalize w5.heap.size = r at *
    go_loopw [4] (fun _ wr => ∃ (T : List MapEntry) (v : Value), Hid (Ri w wr r mb c w.heap.size es clk (.slice ao2 con.length cap2) v con sd ck T)) (fun _ wr => es.size - seenN wr r)
    case atStart => exact ⟨_, _, L0⟩
    case round =>
      clear L0
      obtain ⟨T, v, hri⟩ := hrel
      rename_i wr
      rcases run_next_at (P := Tryz.prog) wr 0 r mb clk clk _ es clk hri.out.it hri.out.mp E4.out (Nat.le_refl _) with ⟨h0, hnx⟩ | ⟨e, he, w1, hw1, hnx⟩
      · have hP := hid (hri.out.all E3.out h0)
        clear h0
        have hLp : Hid ((T.map ent).Perm l) := hid (EE1.out ▸ hP.out.map ent)
        obtain ⟨vo, vcap, rfl, hvo⟩ := own_any_shape hri.out.ov
        have z1 : wr.cell? ⟨c, 1, none⟩ = some (.slice vo T.length vcap) := by simpa using hri.out.bx.cell 1
        have hVo := hid hvo
        clear hvo
        go_wp2_with fail
        go_at_call 32
        have hov2 : wr.ownsRow w.heap.size 77 2 (.slice vo (T.map ent).length vcap) (T.map ent).length (prs (T.map ent)) := by rw [List.length_map]; exact hri.out.ov
        have srt := sortAny hov2 hLp.out hL.out hR.out hWf.out
        rw [List.length_map] at srt
        refine srt.mono ?_
        clear srt hov2
        rintro e w7 ⟨rfl, hv7, hg7⟩
        have n1 := row_ne_box hri.out.ov hri.out.bx (by decide)
        have n2 := row_ne_box hri.out.ov hri.out.rs (by decide)
        have n2h := hid n2
        have C7 := hid (hri.out.bx.on hg7 (fun q => n1 q.symm))
        have R7 := hid (hri.out.rs.on hg7 (fun q => n2 q.symm))
        have O7 := hid (hri.out.oc.kept hg7 (row_ne_row hri.out.oc hri.out.ov (by decide)))
        have B7 := hid (hri.out.bel.grown hg7 hri.out.bel.size (fun k hk => (hri.out.ov.lt k hk).1))
        have V7 := hid hv7
        have hTl := hid hLp.out.length_eq
        have z0 := C7.out.cell 0
        have z2 := C7.out.cell 1
        have z3 := C7.out.cell 2
        have z4 := C7.out.cell 3
        have y0 := R7.out.cell 0
        have y1 := R7.out.cell 1
        have y2 := R7.out.cell 2
        have y3 := R7.out.cell 3
        simp only [List.getElem?_toArray, List.getElem?_cons_zero, List.getElem?_cons_succ] at z0 z2 z3 z4 y0 y1 y2 y3
        have f0 := R7.out.free 0
        have f1 := R7.out.free 1
        have f2 := R7.out.free 2
        have f3 := R7.out.free 3
        clear n1 n2 hv7 hg7 hnx z1
        go_wp2_with fail
        (try simp only [Exit.inBlock, Exit.then])
        have SG := grown_trans (grown_trans (grown_trans (grown_set w7 w.heap.size 0 (.slice ao2 con.length cap2)) (grown_set _ w.heap.size 1 (.slice vo T.length vcap))) (grown_set _ w.heap.size 2 (.int .u64 sd))) (grown_set _ w.heap.size 3 (.int .u32 ck))
        have R8 : Bx ((((w7.setCell ⟨w.heap.size, 0, none⟩ (.slice ao2 con.length cap2)).setCell ⟨w.heap.size, 1, none⟩ (.slice vo T.length vcap)).setCell ⟨w.heap.size, 2, none⟩ (.int .u64 sd)).setCell ⟨w.heap.size, 3, none⟩ (.int .u32 ck)) w.heap.size #[.slice ao2 con.length cap2, .slice vo T.length vcap, .int .u64 sd, .int .u32 ck] 45 := by simpa using (((R7.out.set 0 (.slice ao2 con.length cap2)).set 1 (.slice vo T.length vcap)).set 2 (.int .u64 sd)).set 3 (.int .u32 ck)
        have nO := row_ne_box O7.out R7.out (by decide)
        have O8 := By.of_own (O7.out.kept SG (.inr nO))
        have V8 := V7.out.gr SG n2h.out
        have B8 := B7.out.grown SG B7.out.size (fun k hk => by simp only [Option.some.injEq] at hk; omega)
        have hTl2 : T.length = l.length := by have := hTl.out; simpa using this
        generalize ((((w7.setCell ⟨w.heap.size, 0, none⟩ (.slice ao2 con.length cap2)).setCell ⟨w.heap.size, 1, none⟩ (.slice vo T.length vcap)).setCell ⟨w.heap.size, 2, none⟩ (.int .u64 sd)).setCell ⟨w.heap.size, 3, none⟩ (.int .u32 ck)) = w8 at *
        refine bodyPost_ret (v := .agg #[.slice ao2 con.length cap2, .slice vo T.length vcap, .int .u64 sd, .int .u32 ck]) (results_cell_row rfl _ _ w.heap.size _ _ _ _ rfl R8 Tryz.underlying45 rfl (by kernel_rfl)) rfl ?_
        exact ⟨⟨ao2, cap2, vo, vcap, by rw [hTl2], O8, V8⟩, B8⟩
      · have hfr := hid (Ri.fresh he)
        have hst := hri.out.step hw1 e
        have hkv := EE2.out e hfr.out.1
        generalize hent : ent e = se at hkv
        obtain ⟨s, x⟩ := se
        have hEnt := hid hent
        have hen := run_entry_at (P := Tryz.prog) _ r mb clk (T.map (·.born)).toArray es clk e (by simpa using hst.1) hst.2.1 hfr.out.1 E3.out
        rw [hkv.1, hkv.2] at hen hnx
        have hSt := hid hst
        clear hst hkv he hw1 hent
        generalize setBlock w1 r (.mapIter (some mb) clk ((T.map (·.born)).toArray.push e.born) clk) = w2 at *
        obtain ⟨vo, vcap, rfl, -⟩ := own_any_shape hri.out.ov
        have hTe : Hid (T.length + 1 ≤ es.size) := by
          have t1 := taken_len (es := es) (T := T ++ [e]) (fun y hy => by rcases List.mem_append.1 hy with hy | hy; exact hri.out.sub y hy; rw [List.mem_singleton.1 hy]; exact hfr.out.1) (nodup_more hri.out.nd hfr.out.2)
          exact hid (by simpa using t1)
        have hTl : T.length ≤ 31 := by
          have t1 := hTe.out
          have t2 := congrArg List.length EE1.out
          have t3 := hL.out
          simp at t2
          omega
        have z1 : w2.cell? ⟨c, 1, none⟩ = some (.slice vo T.length vcap) := by simpa using hSt.out.2.2.1.cell 1
        have hsz := hSt.out.2.2.2.2.2.2.size
        have hov := hSt.out.2.2.2.2.2.1
        go_wp2_with (at_builtin; go_must (refine wpList_append_str rfl _ _ 43 rfl w.heap.size 77 77 (.agg #[.string ⟨#[]⟩, .int .u32 0]) 2 24 1 Tryz.underlying43 (by kernel_rfl) rfl (by decide) _ T.length (prs (T.map ent)) [.string s, .int .u32 x] (0, 0) hov rfl (by simp [Value.oneCell']) (by unfold maxLen; omega) (by omega) hsz rfl rfl ?_); go_must (intro v' w3 hA; obtain ⟨vo2, vc2, rfl, -⟩ := own_any_shape hA.own; have C3 := hid (hSt.out.2.2.1.on hA.grown (fun q => row_ne_box hov hSt.out.2.2.1 (by decide) q.symm)); have z2 : w3.cell? ⟨c, 1, none⟩ = some (.slice vo T.length vcap) := (by simpa using C3.out.cell 1); have f1 := C3.out.free 1; have RM := hid (hri.out.more hSt.out hfr.out hEnt.out hA (by have := hc4.out; omega)); clear hA hov hsz z1))
        exact ⟨⟨_, _, RM⟩, by rw [RM.out.seen, hri.out.seen, List.length_append, List.length_singleton]; have := hTe.out; omega⟩
  · have ba := (Below.refl w2.heap.size w2).alloc (Nat.le_refl _) (.cells #[.slice none 0 0, .slice none 0 0, .int .u64 0, .int .u32 0] 45)
    have C3 := hid (Bx.new w2 #[.slice none 0 0, .slice none 0 0, .int .u64 0, .int .u32 0] 45)
    have H3 := hid (H2.out.below ba)
    have K3 := hid (K2.out.below ba)
    have R3 := hid (R2.out.below ba)
    have B3 := hid (B2.out.trans (ba.mono B2.out.size))
    have hc3 := hid (show w.heap.size < w2.heap.size from Nat.lt_of_le_of_lt (Nat.le_refl _) R2.out.lt)
    go_simp
    refine hK.out _ _ (show (fun w9 => Bx w9 h #[.slice ao con.length cap, .map (some mb), .int .u64 sd, .int .u32 ck] 56) _ from H3.out.bx) (fun hHeld => ?_)
    clear hK K ba B2 R2 H2 K2
    try simp only [Act.put, List.setIfInBounds_toArray, List.set_cons_zero, List.set_cons_succ]
    generalize w2.alloc (.cells #[.slice none 0 0, .slice none 0 0, .int .u64 0, .int .u32 0] 45) = w3 at *
    generalize w2.heap.size = c at *
    have hc4 := hid hc3.out
    clear hc3
    refine wpAnyH_ready (rs := [4]) (by kernel_rfl) (by simp) ?_
    refine AllReadyH.cons (by simp only [List.getElem?_toArray, List.getElem?_cons_succ, List.getElem?_cons_zero]; rfl) (fun K hK => ?_) AllReadyH.nil
    have c27 := hid (clone27 ao con.length cap con rfl w3 (By.of_own H3.out.own) (by have := H3.out.cl; omega))
    go_simp
    go_at_call 27
    refine c27.out.mono ?_
    rintro e w4 ⟨v', rfl, ho, hb3⟩
    obtain ⟨ao2, cap2, rfl, -⟩ := own_any_shape ho
    have O4 := hid (own_base ho (B3.out.size))
    have B4 := hid (B3.out.trans (hb3.mono B3.out.size))
    have R4 := hid (R3.out.below hb3)
    have H4 := hid (H3.out.below hb3)
    have K4 := hid (K3.out.below hb3)
    have C4 := hid (C3.out.below hb3)
    clear c27 ho hb3 hHeld B3 R3 H3 K3 C3
    go_wp2_with fail
    refine hK.out _ _ (show (fun w9 => Bx w9 h #[.slice ao con.length cap, .map (some mb), .int .u64 sd, .int .u32 ck] 56) w4 from H4.out.bx) (fun hHeld => ?_)
    clear hK K
    try simp only [Act.put, List.setIfInBounds_toArray, List.set_cons_zero, List.set_cons_succ]
    refine wpAnyH_take (i := 13) (v := ?_) (by simp only [List.getElem?_toArray, List.getElem?_cons_succ, List.getElem?_cons_zero]; rfl) (by kernel_rfl) (by kernel_rfl) (by kernel_rfl) (by intro _ _ _ h; exact h) (Or.inl ⟨by rfl, ?_⟩) (by assumption) ?_
    rotate_left
    · intro w' hSw; go_simp; (try with_reducible rfl)
    try simp only [Act.put, List.setIfInBounds_toArray, List.set_cons_zero, List.set_cons_succ]
    clear hHeld
    have f0 := C4.out.free 0
    have f1 := C4.out.free 1
    have f2 := C4.out.free 2
    have f3 := C4.out.free 3
    have z0 := C4.out.cell 0
    have z1 := C4.out.cell 1
    have z2 := C4.out.cell 2
    have z3 := C4.out.cell 3
    simp only [List.getElem?_toArray, List.getElem?_cons_zero, List.getElem?_cons_succ] at z0 z1 z2 z3
    have SG := hid (grown_trans (grown_trans (grown_trans (grown_set w4 c 0 (.slice ao2 con.length cap2)) (grown_set _ c 1 (.slice none 0 0))) (grown_set _ c 2 (.int .u64 sd))) (grown_set _ c 3 (.int .u32 ck)))
    have C5 : Hid (Bx ((((w4.setCell ⟨c, 0, none⟩ (.slice ao2 con.length cap2)).setCell ⟨c, 1, none⟩ (.slice none 0 0)).setCell ⟨c, 2, none⟩ (.int .u64 sd)).setCell ⟨c, 3, none⟩ (.int .u32 ck)) c #[.slice ao2 con.length cap2, .slice none 0 0, .int .u64 sd, .int .u32 ck] 45) := hid (by simpa using (((C4.out.set 0 (.slice ao2 con.length cap2)).set 1 (.slice none 0 0)).set 2 (.int .u64 sd)).set 3 (.int .u32 ck))
    have H5 := hid (H4.out.keep45 C4.out SG.out)
    have K5 := hid (K4.out.on SG.out (fun e => H4.out.mb45 C4.out (by simpa using e)))
    have R5 := hid (R4.out.on SG.out (fun e => by simp only [Option.some.injEq] at e; have := hc4.out; omega))
    have O5 := hid (O4.out.kept SG.out (.inr (row_ne_box O4.out C4.out (by decide))))
    have B5 := hid (B4.out.grown SG.out B4.out.size (fun q8 h8 => by simp only [Option.some.injEq] at h8; have := hc4.out; omega))
    refine wpAnyH_ready (rs := [15]) (by kernel_rfl) (by simp) ?_
    refine AllReadyH.cons (by simp only [List.getElem?_toArray, List.getElem?_cons_succ, List.getElem?_cons_zero]; rfl) (fun K hK => ?_) AllReadyH.nil
    go_simp
    refine hK.out _ _ (show (fun w9 => Bx w9 h #[.slice ao con.length cap, .map (some mb), .int .u64 sd, .int .u32 ck] 56) _ from H5.out.bx) (fun hHeld => ?_)
    clear hK K hHeld SG B4 R4 H4 K4 O4 C4 z0 z1 z2 z3 f0 f1 f2 f3
    try simp only [Act.put, List.setIfInBounds_toArray, List.set_cons_zero, List.set_cons_succ]
    refine wpAnyH_done (by kernel_rfl) ?_ _
    generalize ((((w4.setCell ⟨c, 0, none⟩ (.slice ao2 con.length cap2)).setCell ⟨c, 1, none⟩ (.slice none 0 0)).setCell ⟨c, 2, none⟩ (.int .u64 sd)).setCell ⟨c, 3, none⟩ (.int .u32 ck)) = w5 at *
    have c1 := H5.out.bx.cell 1
    simp only [List.getElem?_toArray, List.getElem?_cons_zero, List.getElem?_cons_succ] at c1
    obtain ⟨es, clk, e1, e2⟩ := H5.out.mp
    obtain ⟨es2, clk2, e5, e3, e4⟩ := K5.out
    rw [e1] at e5
    simp only [Option.some.injEq, Obj.map.injEq] at e5
    obtain ⟨rfl, rfl⟩ := e5
    have hrg := run_range_map (P := Tryz.prog) w5 54 9 23 mb es clk Tryz.underlying54 e1
    have E1 := hid e1
    have E2 := hid e2
    have E3 := hid e3
    have E4 := hid e4
    clear e1 e2 e3 e4 K5
    go_wp2_with fail
    have L0 : Hid (Ri w _ w5.heap.size mb c w.heap.size es clk (.slice ao2 con.length cap2) (.slice none 0 0) con sd ck []) := hid ⟨heap_alloc_new w5 (.mapIter (some mb) clk #[] clk), ((Below.refl w5.heap.size w5).alloc (Nat.le_refl _) _).block mb (lt_of_block E1.out) |>.trans E1.out, C5.out.below ((Below.refl _ _).alloc (Nat.le_refl _) _), R5.out.below ((Below.refl _ _).alloc (Nat.le_refl _) _), O5.out.alloc _, World.ownsRow_nil _ _ _ _, fun e he => (List.not_mem_nil he).elim, List.nodup_nil, B5.out.alloc B5.out.size _, B5.out.size, by have := hc4.out; omega⟩
    obtain ⟨ee1, ee2⟩ := ent_at E2.out
    have EE1 := hid ee1
    have EE2 := hid ee2
    clear hrg C5 R5 O5 B5 E1 E2 H5 c1 ee1 ee2
    generalize w5.alloc (.mapIter (some mb) clk #[] clk) = w6 at *
    generalize w5.heap.size = r at *
    go_loopw [4] (fun _ wr => ∃ (T : List MapEntry) (v : Value), Hid (Ri w wr r mb c w.heap.size es clk (.slice ao2 con.length cap2) v con sd ck T)) (fun _ wr => es.size - seenN wr r)
    case atStart => exact ⟨_, _, L0⟩
    case round =>
      clear L0
      obtain ⟨T, v, hri⟩ := hrel
      rename_i wr
      rcases run_next_at (P := Tryz.prog) wr 0 r mb clk clk _ es clk hri.out.it hri.out.mp E4.out (Nat.le_refl _) with ⟨h0, hnx⟩ | ⟨e, he, w1, hw1, hnx⟩
      · have hP := hid (hri.out.all E3.out h0)
        clear h0
        have hLp : Hid ((T.map ent).Perm l) := hid (EE1.out ▸ hP.out.map ent)
        obtain ⟨vo, vcap, rfl, hvo⟩ := own_any_shape hri.out.ov
        have z1 : wr.cell? ⟨c, 1, none⟩ = some (.slice vo T.length vcap) := by simpa using hri.out.bx.cell 1
        have hVo := hid hvo
        clear hvo
        go_wp2_with fail
        go_at_call 32
        have hov2 : wr.ownsRow w.heap.size 77 2 (.slice vo (T.map ent).length vcap) (T.map ent).length (prs (T.map ent)) := by rw [List.length_map]; exact hri.out.ov
        have srt := sortAny hov2 hLp.out hL.out hR.out hWf.out
        rw [List.length_map] at srt
        refine srt.mono ?_
        clear srt hov2
        rintro e w7 ⟨rfl, hv7, hg7⟩
        have n1 := row_ne_box hri.out.ov hri.out.bx (by decide)
        have n2 := row_ne_box hri.out.ov hri.out.rs (by decide)
        have n2h := hid n2
        have C7 := hid (hri.out.bx.on hg7 (fun q => n1 q.symm))
        have R7 := hid (hri.out.rs.on hg7 (fun q => n2 q.symm))
        have O7 := hid (hri.out.oc.kept hg7 (row_ne_row hri.out.oc hri.out.ov (by decide)))
        have B7 := hid (hri.out.bel.grown hg7 hri.out.bel.size (fun k hk => (hri.out.ov.lt k hk).1))
        have V7 := hid hv7
        have hTl := hid hLp.out.length_eq
        have z0 := C7.out.cell 0
        have z2 := C7.out.cell 1
        have z3 := C7.out.cell 2
        have z4 := C7.out.cell 3
        have y0 := R7.out.cell 0
        have y1 := R7.out.cell 1
        have y2 := R7.out.cell 2
        have y3 := R7.out.cell 3
        simp only [List.getElem?_toArray, List.getElem?_cons_zero, List.getElem?_cons_succ] at z0 z2 z3 z4 y0 y1 y2 y3
        have f0 := R7.out.free 0
        have f1 := R7.out.free 1
        have f2 := R7.out.free 2
        have f3 := R7.out.free 3
        clear n1 n2 hv7 hg7 hnx z1
        go_wp2_with fail
        (try simp only [Exit.inBlock, Exit.then])
        have SG := grown_trans (grown_trans (grown_trans (grown_set w7 w.heap.size 0 (.slice ao2 con.length cap2)) (grown_set _ w.heap.size 1 (.slice vo T.length vcap))) (grown_set _ w.heap.size 2 (.int .u64 sd))) (grown_set _ w.heap.size 3 (.int .u32 ck))
        have R8 : Bx ((((w7.setCell ⟨w.heap.size, 0, none⟩ (.slice ao2 con.length cap2)).setCell ⟨w.heap.size, 1, none⟩ (.slice vo T.length vcap)).setCell ⟨w.heap.size, 2, none⟩ (.int .u64 sd)).setCell ⟨w.heap.size, 3, none⟩ (.int .u32 ck)) w.heap.size #[.slice ao2 con.length cap2, .slice vo T.length vcap, .int .u64 sd, .int .u32 ck] 45 := by simpa using (((R7.out.set 0 (.slice ao2 con.length cap2)).set 1 (.slice vo T.length vcap)).set 2 (.int .u64 sd)).set 3 (.int .u32 ck)
        have nO := row_ne_box O7.out R7.out (by decide)
        have O8 := By.of_own (O7.out.kept SG (.inr nO))
        have V8 := V7.out.gr SG n2h.out
        have B8 := B7.out.grown SG B7.out.size (fun k hk => by simp only [Option.some.injEq] at hk; omega)
        have hTl2 : T.length = l.length := by have := hTl.out; simpa using this
        generalize ((((w7.setCell ⟨w.heap.size, 0, none⟩ (.slice ao2 con.length cap2)).setCell ⟨w.heap.size, 1, none⟩ (.slice vo T.length vcap)).setCell ⟨w.heap.size, 2, none⟩ (.int .u64 sd)).setCell ⟨w.heap.size, 3, none⟩ (.int .u32 ck)) = w8 at *
        refine bodyPost_ret (v := .agg #[.slice ao2 con.length cap2, .slice vo T.length vcap, .int .u64 sd, .int .u32 ck]) (results_cell_row rfl _ _ w.heap.size _ _ _ _ rfl R8 Tryz.underlying45 rfl (by kernel_rfl)) rfl ?_
        exact ⟨⟨ao2, cap2, vo, vcap, by rw [hTl2], O8, V8⟩, B8⟩
      · have hfr := hid (Ri.fresh he)
        have hst := hri.out.step hw1 e
        have hkv := EE2.out e hfr.out.1
        generalize hent : ent e = se at hkv
        obtain ⟨s, x⟩ := se
        have hEnt := hid hent
        have hen := run_entry_at (P := Tryz.prog) _ r mb clk (T.map (·.born)).toArray es clk e (by simpa using hst.1) hst.2.1 hfr.out.1 E3.out
        rw [hkv.1, hkv.2] at hen hnx
        have hSt := hid hst
        clear hst hkv he hw1 hent
        generalize setBlock w1 r (.mapIter (some mb) clk ((T.map (·.born)).toArray.push e.born) clk) = w2 at *
        obtain ⟨vo, vcap, rfl, -⟩ := own_any_shape hri.out.ov
        have hTe : Hid (T.length + 1 ≤ es.size) := by
          have t1 := taken_len (es := es) (T := T ++ [e]) (fun y hy => by rcases List.mem_append.1 hy with hy | hy; exact hri.out.sub y hy; rw [List.mem_singleton.1 hy]; exact hfr.out.1) (nodup_more hri.out.nd hfr.out.2)
          exact hid (by simpa using t1)
        have hTl : T.length ≤ 31 := by
          have t1 := hTe.out
          have t2 := congrArg List.length EE1.out
          have t3 := hL.out
          simp at t2
          omega
        have z1 : w2.cell? ⟨c, 1, none⟩ = some (.slice vo T.length vcap) := by simpa using hSt.out.2.2.1.cell 1
        have hsz := hSt.out.2.2.2.2.2.2.size
        have hov := hSt.out.2.2.2.2.2.1
        go_wp2_with (at_builtin; go_must (refine wpList_append_str rfl _ _ 43 rfl w.heap.size 77 77 (.agg #[.string ⟨#[]⟩, .int .u32 0]) 2 24 1 Tryz.underlying43 (by kernel_rfl) rfl (by decide) _ T.length (prs (T.map ent)) [.string s, .int .u32 x] (0, 0) hov rfl (by simp [Value.oneCell']) (by unfold maxLen; omega) (by omega) hsz rfl rfl ?_); go_must (intro v' w3 hA; obtain ⟨vo2, vc2, rfl, -⟩ := own_any_shape hA.own; have C3 := hid (hSt.out.2.2.1.on hA.grown (fun q => row_ne_box hov hSt.out.2.2.1 (by decide) q.symm)); have z2 : w3.cell? ⟨c, 1, none⟩ = some (.slice vo T.length vcap) := (by simpa using C3.out.cell 1); have f1 := C3.out.free 1; have RM := hid (hri.out.more hSt.out hfr.out hEnt.out hA (by have := hc4.out; omega)); clear hA hov hsz z1))
        exact ⟨⟨_, _, RM⟩, by rw [RM.out.seen, hri.out.seen, List.length_append, List.length_singleton]; have := hTe.out; omega⟩

end Go.Proofs.YtmjholcpajfldaaGreatDoor
