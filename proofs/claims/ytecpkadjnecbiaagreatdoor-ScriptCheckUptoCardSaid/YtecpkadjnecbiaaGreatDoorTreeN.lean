/- Walks: expressions copied. -/
import Derived.Test.YtecpkadjnecbiaaGreatDoorTreeM
import Derived.Test.YtecpkadjnecbiaaGreatDoorKitG
import Derived.Outline
namespace Go.Proofs.YtecpkadjnecbiaaGreatDoor
open Go.RowKit
set_option linter.unusedVariables false
set_option linter.unusedSimpArgs false

/-- the cells of an expression -/
def ExpC (w : World) (Z : Nat → Prop) (a : EH × Exs) (c : List Value) : Prop :=
  ∃ v, c = [.int .i64 a.1.at_, .int .u8 a.1.kind, .int .u32 a.1.word, .int .u8 a.1.type, .string a.1.name, .string a.1.sign, v] ∧ SlE w true (some Z) a.2 v
/-- from B on, below the heap's end, not the list's own block -/
def ZB (B N : Nat) (v : Value) : Nat → Prop := fun b => B ≤ b ∧ b < N ∧ some b ≠ v.ownBlock
abbrev EW (w : World) (a0 a1 a2 a3 : Int) (a4 a5 : ByteArray) (v : Value) : World := (w.alloc (.cells #[.int .i64 a0, .int .u8 a1, .int .u32 a2, .int .u8 a3, .string a4, .string a5, v] 64)).alloc (.cells #[.int .i64 0, .int .u8 0, .int .u32 0, .int .u8 0, .string ⟨#[]⟩, .string ⟨#[]⟩, .slice none 0 0] 64)
theorem take_snoc' {α : Type} (l : List α) (k : Nat) (h : k < l.length) : l.take (k + 1) = l.take k ++ [l[k]] := List.take_succ_eq_append_getElem h
theorem grown_weak {w w' : World} {row : Option Nat} (h : w.grownBy w' none) : w.grownBy w' row := ⟨h.os, h.tape, h.output, h.size, fun k hk _ => h.block k hk (by simp)⟩
/-- a round: something is made, then appended -/
structure StepOk (B : Nat) (wr w2 w3 : World) (x v' : Value) : Prop where
  grown : wr.grownBy w3 x.ownBlock
  grown2 : w2.grownBy w3 x.ownBlock
  oldz : ∀ b, ZB B wr.heap.size x b → ZB B w3.heap.size v' b
  new : ∀ b, (wr.heap.size ≤ b ∧ b < w2.heap.size) → some b ≠ x.ownBlock
  newz : ∀ b, (wr.heap.size ≤ b ∧ b < w2.heap.size) → ZB B w3.heap.size v' b
theorem mkStep {B base : Nat} {wr w2 w3 : World} {e : TypeId} {size n m : Nat} {x v' : Value} {xs news : List Value} (hg : wr.grownBy w2 none) (hA : Appended w2 w3 base e size x v' n m xs news) (hlt : ∀ k, x.ownBlock = some k → k < wr.heap.size) (hB : B ≤ wr.heap.size) : StepOk B wr w2 w3 x v' := by
  have h1 := hg.size
  have h2 := hA.grown.size
  have hne : ∀ b, b < w2.heap.size → some b ≠ x.ownBlock → some b ≠ v'.ownBlock := by
    intro b hb hx
    rcases hA.place with hp | ⟨g, hp, hg, _⟩
    · rw [hp]; exact hx
    · rw [hp]; intro h; cases h; omega
  have hnew : ∀ b, (wr.heap.size ≤ b ∧ b < w2.heap.size) → some b ≠ x.ownBlock := fun b hb h => by have := hlt b h.symm; omega
  refine ⟨grown_trans (grown_weak hg) hA.grown, hA.grown, fun b hb => ⟨hb.1, ?_, hne b ?_ hb.2.2⟩, hnew, fun b hb => ⟨?_, ?_, hne b hb.2 (hnew b hb)⟩⟩
  · have := hb.2.1; omega
  · have := hb.2.1; omega
  · omega
  · omega
theorem ExpC.step {B : Nat} {wr w2 w3 : World} {x v' : Value} (h : StepOk B wr w2 w3 x v') {a : EH × Exs} {c : List Value} (hc : ExpC wr (ZB B wr.heap.size x) a c) : ExpC w3 (ZB B w3.heap.size v') a c := by
  obtain ⟨v, hv, ht⟩ := hc
  exact ⟨v, hv, ht.move h.grown (fun b hb => hb.2.2) h.oldz⟩
theorem ExpR.of {w : World} {Z : Nat → Prop} {a : EH × Exs} {c : List Value} {g q : Nat} (h : ExpC w Z a c) (hc : ∀ j, j < 7 → w.cell? ⟨g, q + j, none⟩ = c[j]?) : ExpR w true (some Z) a g q := by
  obtain ⟨v, rfl, ht⟩ := h
  exact ⟨⟨⟨_, hc 0 (by omega), fun _ => rfl⟩, hc 1 (by omega), hc 2 (by omega), hc 3 (by omega), hc 4 (by omega), hc 5 (by omega)⟩, ⟨v, hc 6 (by omega), ht⟩⟩
theorem ew_cells {w w3 : World} {c1 c2 : Array Value} {t1 t2 : TypeId} (h : Below (w.heap.size + 2) ((w.alloc (.cells c1 t1)).alloc (.cells c2 t2)) w3) :
    (∀ i, w3.cell? ⟨w.heap.size, i, none⟩ = c1[i]?) ∧ (∀ i, w3.cell? ⟨w.heap.size + 1, i, none⟩ = c2[i]?) ∧ (∀ i, w3.frozen? ⟨w.heap.size, i, none⟩ = false) ∧ (∀ i, w3.frozen? ⟨w.heap.size + 1, i, none⟩ = false) := by
  have hb : Below ((w.alloc (.cells c1 t1)).alloc (.cells c2 t2)).heap.size ((w.alloc (.cells c1 t1)).alloc (.cells c2 t2)) w3 := h.mono (by simp)
  refine ⟨(box_on hb).1, (box_on hb).2, fun i => ?_, fun i => ?_⟩
  · rw [hb.frozen (by simp; omega)]; go_simp
  · rw [hb.frozen (by simp)]; go_simp
theorem ExpC.weak {w : World} {Z Z' : Nat → Prop} {a : EH × Exs} {c : List Value} (h : ExpC w Z a c) (hz : ∀ b, Z b → Z' b) : ExpC w Z' a c := by
  obtain ⟨v, hv, ht⟩ := h
  exact ⟨v, hv, ht.move (grown_refl w none) (fun _ _ => by simp) hz⟩
theorem grown_put {w w' : World} {pb off : Nat} (h : w.grownBy w' (some pb)) (x : Value) : w.grownBy (w'.setCell ⟨pb, off, none⟩ x) (some pb) :=
  grown_trans h ⟨rfl, rfl, rfl, by simp [World.setCell], fun k _ hk => Below.heap_setCell _ _ _ _ (fun e => hk (by rw [e]))⟩
theorem grown_of_below {w w' : World} (h : Below w.heap.size w w') : w.grownBy w' none := ⟨h.os, h.tape, h.output, h.size, fun k hk _ => h.block k hk⟩
theorem below_of_grown {w w' : World} (h : w.grownBy w' none) : Below w.heap.size w w' := ⟨h.os, h.tape, h.output, h.size, fun k hk => h.block k hk (by simp)⟩
def CopyE (w : World) (h : EH) (kids : Exs) (e : Ending) (w' : World) : Prop :=
  ∃ v', e = .returned (aggE h.at_ h v') ∧ SlE w' true (some fun b => w.heap.size ≤ b ∧ b < w'.heap.size) kids v' ∧ w.grownBy w' none

theorem expr_done {B : Nat} {kids : Exs} {wr w3 : World} {x0 : Value} {g k cap : Nat} {cs : List (List Value)} {mark : List Value} (hA : Hid (Appended wr w3 (B + 2) 64 7 x0 (.slice (some ⟨g, 0, none⟩) (k + 1) cap) k 1 cs.flatten mark))
    (h1 : cs.length = kids.toL.length) (h2 : ∀ i (h : i < kids.toL.length) (h' : i < cs.length), cs[i].length = 7 ∧ ExpC wr (ZB (B + 2) wr.heap.size x0) kids.toL[i] cs[i]) (hlt : ∀ q, x0.ownBlock = some q → q < wr.heap.size) (hB : B + 2 ≤ wr.heap.size) (hg : B + 2 ≤ g) (hm : k = kids.toL.length) (hmk : mark[0]? = some (markV 64) := by rfl) :
    SlE w3 true (some fun b => B + 2 ≤ b ∧ b < w3.heap.size) kids (.slice (some ⟨g, 0, none⟩) k cap) := by
  subst hm
  have hSt := mkStep (B := B + 2) (grown_refl wr none) hA.out hlt hB
  have hg3 : g < w3.heap.size := (hA.out.own.lt g rfl).2
  refine SlE_iff.2 (Bld.done (R := ExpC w3 (fun b => B + 2 ≤ b ∧ b < w3.heap.size)) h1 (fun i h h' => ⟨(h2 i h h').1, ((h2 i h h').2.step hSt).weak (fun b hb => ⟨hb.1, hb.2.1⟩)⟩) hA.out.own (by omega) (by decide) hmk ⟨hg, hg3⟩ (fun a c q hR hc => ExpR.of hR hc))

set_option maxHeartbeats 1000000 in
set_option maxRecDepth 100000 in
theorem copy55 : ∀ (n : Nat) (h : EH) (kids : Exs) (v : Value) (w : World), kids.sz < n → kids.sz ≤ 100000000 → SlE w true none kids v →
    Calls Tryz.prog 27 #[aggE h.at_ h v] w (CopyE w h kids) := by
  intro n
  induction n with
  | zero => intro h kids v w hn; omega
  | succ n ih =>
    have IH := hid ih
    clear ih
    intro h kids v w hn hs hv
    obtain ⟨ka, b, off, c, rfl, hka, hin⟩ := SlE_iff.1 hv
    obtain ⟨m, hm⟩ : ∃ m, m = kids.toL.length := ⟨_, rfl⟩
    have hl := kids.len_le
    rw [← Exs.toL_len, ← hm] at hl
    rw [← hm] at hka ⊢
    have hM := hid hm
    have hI := hid hin
    have hS := hid (And.intro hn hs)
    have hkb : m ≤ 100000000 := by omega
    obtain ⟨a0, a1, a2, a3, a4, a5⟩ := h
    clear hn hs hin hv hm hl
    go_enter Tryz.func27, Tryz.ntmps27
    go_wp2_with fail
    go_loopw [3, 4] (fun x i wr => ∃ (k : Nat) (x0 : Value), x0 = x ∧ k ≤ m ∧ i = .int .i64 k ∧ Bld wr (w.heap.size + 2) 64 7 (ExpC wr (ZB (w.heap.size + 2) wr.heap.size x0)) (kids.toL.take k) x0 ∧ Below (w.heap.size + 2) (EW w a0 a1 a2 a3 a4 a5 (.slice ka m c)) wr) (fun _ i _ => m - (intOf i).toNat)
    case atStart => exact ⟨0, _, rfl, Nat.zero_le _, rfl, Bld.nil _ _ _ _ _, Below.refl _ _⟩
    case round =>
      obtain ⟨k, x0, rfl, hk, rfl, hbld, hb⟩ := hrel
      have hsz0 : w.heap.size + 2 ≤ wr.heap.size := by have := hb.size; simp at this; omega
      have hbx : wr.cell? ⟨w.heap.size, 6, none⟩ = some (.slice ka m c) := by rw [hb.cell (by simp)]; go_simp
      have hW : Below w.heap.size w wr := (below2 w _ _).trans (hb.mono (by omega))
      by_cases hlt : k < m
      · obtain ⟨⟨⟨t, z0, zt⟩, z1, z2, z3, z4, z5⟩, ⟨u, z6, hu⟩⟩ := hI.out k (by have := hM.out; omega)
        have ht := zt rfl
        subst ht
        have y0 := cell_on z0 hW
        have y1 := cell_on z1 hW
        have y2 := cell_on z2 hW
        have y3 := cell_on z3 hW
        have y4 := cell_on z4 hW
        have y5 := cell_on z5 hW
        have y6 := cell_on z6 hW
        have hsm := kids.toL_sz _ (List.getElem_mem (l := kids.toL) (n := k) (by have := hM.out; omega))
        have hka2 : ka = some ⟨b, off, none⟩ := by rcases hka with q | q; (· omega); (· exact q.1)
        have hCall := hid (IH.out (kids.toL[k]'(by have := hM.out; omega)).1 (kids.toL[k]'(by have := hM.out; omega)).2 u wr (by have := hS.out; omega) (by have := hS.out; omega) (hu.mono hW))
        have hTk := hid (take_snoc' kids.toL k (by have := hM.out; omega))
        subst hka2
        generalize kids.toL[k]'(by have := hM.out; omega) = a at *
        obtain ⟨⟨c0, c1, c2, c3, c4, c5⟩, kk⟩ := a
        simp only [] at y0 y1 y2 y3 y4 y5 y6
        have hBl := hid hbld
        have hB := hid hb
        have hW0 := hid hW
        clear hka hbld hb hW z0 z1 z2 z3 z4 z5 z6 zt hu hsm
        go_wp2_with fail
        refine hCall.out.mono ?_
        rintro e w2 ⟨u2, rfl, hu2, hg2⟩
        obtain ⟨ua, un, uc, rfl⟩ := hu2.shape
        obtain ⟨cs, hcs1, hcs2, hown⟩ := hBl.out
        have hown2 := hown.kept hg2 (by cases x0.ownBlock <;> simp)
        have hCS := hid (And.intro hcs1 hcs2)
        have hlen : (kids.toL.take k).length = k := by have := hM.out; simp; omega
        rw [hlen] at hown2
        have hO := hid hown2
        have hlt2 := hid (hown.lt)
        have hU2 := hid hu2
        have hG2 := hid hg2
        have hs2 := hid hg2.size
        clear hu2 hg2 hown hown2 hcs1 hcs2 hlen hCall hbx y0 y1 y2 y3 y4 y5 y6
        go_wp2_with (at_builtin; go_must (refine wpList_append_str rfl _ _ 58 rfl (w.heap.size + 2) 64 64 (.agg #[.int .i64 0, .int .u8 0, .int .u32 0, .int .u8 0, .string ⟨#[]⟩, .string ⟨#[]⟩, .slice none 0 0]) 7 80 1 Tryz.underlying58 (by kernel_rfl) rfl (by decide) _ k _ [.int .i64 c0, .int .u8 c1, .int .u32 c2, .int .u8 c3, .string c4, .string c5, .slice ua un uc] (0, 0) hO.out rfl (by simp [Value.oneCell']) (by unfold maxLen; omega) (by omega) (by have := hs2.out; omega) rfl rfl ?_); intro v' w3 hA; have hA' := hid hA; clear hA)
        have hSt := hid (mkStep (B := w.heap.size + 2) hG2.out hA'.out (fun q hq => (hlt2.out q hq).2) (by omega))
        go_roundw
        case rel =>
          refine ⟨k + 1, v', rfl, by omega, by go_num, ?_, ?_⟩
          · rw [hTk.out]
            refine Bld.push hCS.out.1 hCS.out.2 (by have := hA'.out.own; rwa [show (kids.toL.take k).length = k by have := hM.out; simp; omega]) rfl (fun a c h => h.step hSt.out) ⟨_, rfl, hU2.out.move hSt.out.grown2 hSt.out.new hSt.out.newz⟩
          · exact hB.out.grown hSt.out.grown (by omega) (fun q hq => (hlt2.out q hq).1)
        case measure => simp [intOf]; omega
      · obtain rfl : k = m := by omega
        have hall : kids.toL.take k = kids.toL := List.take_of_length_le (by have := hM.out; omega)
        rw [hall] at hbld
        obtain ⟨cs, hcs1, hcs2, hown⟩ := hbld
        rw [← hM.out] at hown
        have hO := hid hown
        have hCS := hid (And.intro hcs1 hcs2)
        have hlt2 := hid (hown.lt)
        have hB := hid hb
        have hbe : wr.cell? ⟨w.heap.size, 6, none⟩ = some (.slice ka k c) := hbx
        clear hcs1 hcs2 hown hb hall hW
        go_wp2_with (at_builtin; go_must (refine wpList_append_str rfl _ _ 58 rfl (w.heap.size + 2) 64 64 (.agg #[.int .i64 0, .int .u8 0, .int .u32 0, .int .u8 0, .string ⟨#[]⟩, .string ⟨#[]⟩, .slice none 0 0]) 7 80 1 Tryz.underlying58 (by kernel_rfl) rfl (by decide) _ k _ [.int .i64 (-7), .int .u8 0, .int .u32 0, .int .u8 0, .string ⟨#[]⟩, .string ⟨#[]⟩, .slice none 0 0] (0, 0) hO.out rfl (by simp [Value.oneCell']) (by unfold maxLen; omega) (by omega) (by omega) rfl rfl ?_); intro v' w3 hA; obtain ⟨g, cap, rfl, hg1, hg2, hg3, hg4⟩ := own_shape hA.own (by omega); have hB3 := hid (hB.out.grown hA.grown (by omega) (fun q hq => (hlt2.out q hq).1)); have hA' := hid hA; clear hA; obtain ⟨e1, e2, e3, e4⟩ := ew_cells hB3.out; have p0 := e1 0; have p1 := e1 1; have p2 := e1 2; have p3 := e1 3; have p4 := e1 4; have p5 := e1 5; have p6 := e1 6; have r0 := e2 0; have r1 := e2 1; have r2 := e2 2; have r3 := e2 3; have r4 := e2 4; have r5 := e2 5; have r6 := e2 6; simp at p0 p1 p2 p3 p4 p5 p6 r0 r1 r2 r3 r4 r5 r6; clear e1 e2)
        have hFin := hid (expr_done hA' hCS.out.1 hCS.out.2 (fun q hq => (hlt2.out q hq).2) (by omega) (by omega) hM.out)
        have hBF := hid ((below2 w _ _).trans (hB3.out.mono (by omega)))
        clear hA' hB3 hCS hO hlt2
        refine bodyPost_ret (v := aggE a0 ⟨a0, a1, a2, a3, a4, a5⟩ (.slice (some ⟨g, 0, none⟩) k cap)) (by simp [results, Tryz.results27, go_sem, p0, p1, p2, p3, p4, p5, p6, r0, r1, r2, r3, r4, r5, r6]) rfl ⟨_, rfl, ?_, grown_of_below ?_⟩
        · refine ((hFin.out.move (grown_put (grown_refl _ _) _) (row := some w.heap.size) (Z' := fun b => w.heap.size + 2 ≤ b ∧ b < w3.heap.size) (fun b hb => by simp; omega) (fun b hb => hb)).move (row := some (w.heap.size + 1)) (grown_put (grown_put (grown_put (grown_put (grown_put (grown_put (grown_put (grown_refl _ _) _) _) _) _) _) _) _) (fun b hb => by simp; omega) (fun b hb => ?_))
          simp
          omega
        · exact (((((((hBF.out.setCell (by simp) _).setCell (by simp) _).setCell (by simp) _).setCell (by simp) _).setCell (by simp) _).setCell (by simp) _).setCell (by simp) _).setCell (by simp) _

end Go.Proofs.YtecpkadjnecbiaaGreatDoor
