/- ScriptSame: walks. No condition. -/
import Derived.Test.YtecpkadjnecbiaaGreatDoorTreeN
import Derived.OneCell
namespace Go.Proofs.YtecpkadjnecbiaaGreatDoor
open Go.RowKit
set_option linter.unusedVariables false
set_option linter.unusedSimpArgs false

/-- a block of cells -/
def Bx (w : World) (q : Nat) (cs : Array Value) (t : TypeId) : Prop := w.heap[q]? = some (.cells cs t (0, 0))
theorem Bx.cell {w : World} {q : Nat} {cs : Array Value} {t : TypeId} (h : Bx w q cs t) (i : Nat) : w.cell? ⟨q, i, none⟩ = cs[i]? := by
  unfold Bx at h
  simp [World.cell?, h]
theorem Bx.free {w : World} {q : Nat} {cs : Array Value} {t : TypeId} (h : Bx w q cs t) (i : Nat) : w.frozen? ⟨q, i, none⟩ = false := by
  unfold Bx at h
  simp [World.frozen?, h]
theorem Bx.lt {w : World} {q : Nat} {cs : Array Value} {t : TypeId} (h : Bx w q cs t) : q < w.heap.size := lt_of_block h
theorem Bx.new (w : World) (cs : Array Value) (t : TypeId) : Bx (w.alloc (.cells cs t)) w.heap.size cs t := heap_alloc_new w _
theorem Bx.on {w w' : World} {q : Nat} {cs : Array Value} {t : TypeId} (h : Bx w q cs t) {row : Option Nat} (hg : w.grownBy w' row) (hn : some q ≠ row) : Bx w' q cs t := (hg.block q h.lt hn).trans h
theorem Bx.set {w : World} {q : Nat} {cs : Array Value} {t : TypeId} (h : Bx w q cs t) (i : Nat) (v : Value) : Bx (w.setCell ⟨q, i, none⟩ v) q (cs.set! i v) t := by
  have hlt := h.lt
  have h' : w.heap[q] = .cells cs t (0, 0) := by have := h; unfold Bx at this; simpa [Array.getElem?_eq_getElem hlt] using this
  show (w.heap.modify q _)[q]? = _
  rw [Array.getElem?_eq_getElem (by simpa using hlt), Array.getElem_modify_self, h']
  rfl

/-- the cells of a statement -/
def StmC (w : World) (Z : Nat → Prop) (a : SB) (c : List Value) : Prop :=
  ∃ v5 v6 v7, c = [.int .i64 a.1.at_, .int .u8 a.1.kind, .string a.1.name, .int .u8 a.1.type, .string a.1.sign, v5, v6, v7] ∧ SlE w true (some Z) a.2.1 v5 ∧ SlS w true (some Z) a.2.2.1 v6 ∧ SlS w true (some Z) a.2.2.2 v7
theorem StmC.step {B : Nat} {wr w2 w3 : World} {x v' : Value} (h : StepOk B wr w2 w3 x v') {a : SB} {c : List Value} (hc : StmC wr (ZB B wr.heap.size x) a c) : StmC w3 (ZB B w3.heap.size v') a c := by
  obtain ⟨v5, v6, v7, hv, h5, h6, h7⟩ := hc
  exact ⟨v5, v6, v7, hv, h5.move h.grown (fun b hb => hb.2.2) h.oldz, h6.move h.grown (fun b hb => hb.2.2) h.oldz, h7.move h.grown (fun b hb => hb.2.2) h.oldz⟩
theorem StmC.weak {w : World} {Z Z' : Nat → Prop} {a : SB} {c : List Value} (h : StmC w Z a c) (hz : ∀ b, Z b → Z' b) : StmC w Z' a c := by
  obtain ⟨v5, v6, v7, hv, h5, h6, h7⟩ := h
  exact ⟨v5, v6, v7, hv, h5.move (grown_refl w none) (fun _ _ => by simp) hz, h6.move (grown_refl w none) (fun _ _ => by simp) hz, h7.move (grown_refl w none) (fun _ _ => by simp) hz⟩
theorem StmR.of {w : World} {Z : Nat → Prop} {a : SB} {c : List Value} {g q : Nat} (h : StmC w Z a c) (hc : ∀ j, j < 8 → w.cell? ⟨g, q + j, none⟩ = c[j]?) : StmR w true (some Z) a g q := by
  obtain ⟨v5, v6, v7, rfl, h5, h6, h7⟩ := h
  exact ⟨⟨⟨_, hc 0 (by omega), fun _ => rfl⟩, hc 1 (by omega), hc 2 (by omega), hc 3 (by omega), hc 4 (by omega)⟩, ⟨v5, hc 5 (by omega), h5⟩, ⟨v6, hc 6 (by omega), h6⟩, ⟨v7, hc 7 (by omega), h7⟩⟩
/-- a list is whole, its mark behind it: base B -/
theorem expr_done' {B : Nat} {kids : Exs} {wr w3 : World} {x0 : Value} {g k cap : Nat} {cs : List (List Value)} {mark : List Value} (hA : Appended wr w3 B 64 7 x0 (.slice (some ⟨g, 0, none⟩) (k + 1) cap) k 1 cs.flatten mark)
    (h1 : cs.length = kids.toL.length) (h2 : ∀ i (h : i < kids.toL.length) (h' : i < cs.length), cs[i].length = 7 ∧ ExpC wr (ZB B wr.heap.size x0) kids.toL[i] cs[i]) (hlt : ∀ q, x0.ownBlock = some q → q < wr.heap.size) (hB : B ≤ wr.heap.size) (hg : B ≤ g) (hm : k = kids.toL.length) (hmk : mark[0]? = some (markV 64) := by rfl) :
    SlE w3 true (some fun b => B ≤ b ∧ b < w3.heap.size) kids (.slice (some ⟨g, 0, none⟩) k cap) := by
  subst hm
  have hSt := mkStep (B := B) (grown_refl wr none) hA hlt hB
  have hg3 : g < w3.heap.size := (hA.own.lt g rfl).2
  refine SlE_iff.2 (Bld.done (R := ExpC w3 (fun b => B ≤ b ∧ b < w3.heap.size)) h1 (fun i h h' => ⟨(h2 i h h').1, ((h2 i h h').2.step hSt).weak (fun b hb => ⟨hb.1, hb.2.1⟩)⟩) hA.own (by omega) (by decide) hmk ⟨hg, hg3⟩ (fun a c q hR hc => ExpR.of hR hc))
theorem stmt_done {B : Nat} {l : Sts} {wr w3 : World} {x0 : Value} {g k cap : Nat} {cs : List (List Value)} {mark : List Value} (hA : Appended wr w3 B 60 8 x0 (.slice (some ⟨g, 0, none⟩) (k + 1) cap) k 1 cs.flatten mark)
    (h1 : cs.length = l.toL.length) (h2 : ∀ i (h : i < l.toL.length) (h' : i < cs.length), cs[i].length = 8 ∧ StmC wr (ZB B wr.heap.size x0) l.toL[i] cs[i]) (hlt : ∀ q, x0.ownBlock = some q → q < wr.heap.size) (hB : B ≤ wr.heap.size) (hg : B ≤ g) (hm : k = l.toL.length) (hmk : mark[0]? = some (markV 60) := by rfl) :
    SlS w3 true (some fun b => B ≤ b ∧ b < w3.heap.size) l (.slice (some ⟨g, 0, none⟩) k cap) := by
  subst hm
  have hSt := mkStep (B := B) (grown_refl wr none) hA hlt hB
  have hg3 : g < w3.heap.size := (hA.own.lt g rfl).2
  refine SlS_iff.2 (Bld.done (R := StmC w3 (fun b => B ≤ b ∧ b < w3.heap.size)) h1 (fun i h h' => ⟨(h2 i h h').1, ((h2 i h h').2.step hSt).weak (fun b hb => ⟨hb.1, hb.2.1⟩)⟩) hA.own (by omega) (by decide) hmk ⟨hg, hg3⟩ (fun a c q hR hc => StmR.of hR hc))

abbrev SW (w : World) (a0 a1 : Int) (a2 : ByteArray) (a3 : Int) (a4 : ByteArray) (v5 v6 v7 : Value) : World := w.alloc (.cells #[.int .i64 a0, .int .u8 a1, .string a2, .int .u8 a3, .string a4, v5, v6, v7] 60)
theorem sw_box {w w3 : World} {a0 a1 : Int} {a2 : ByteArray} {a3 : Int} {a4 : ByteArray} {v5 v6 v7 : Value} (h : Below (w.heap.size + 1) (SW w a0 a1 a2 a3 a4 v5 v6 v7) w3) :
    Bx w3 w.heap.size #[.int .i64 a0, .int .u8 a1, .string a2, .int .u8 a3, .string a4, v5, v6, v7] 60 :=
  (h.block _ (by omega)).trans (Bx.new w _ _)
def CopyS (w : World) (l : Sts) (e : Ending) (w' : World) : Prop :=
  ∃ v', e = .returned v' ∧ SlS w' true (some fun b => w.heap.size ≤ b ∧ b < w'.heap.size) l v' ∧ w.grownBy w' none

set_option maxHeartbeats 2000000 in
set_option maxRecDepth 100000 in
theorem copy37 : ∀ (n : Nat) (l : Sts) (v : Value) (w : World), l.sz < n → l.sz ≤ 100000000 → SlS w true none l v →
    Calls Tryz.prog 12 #[v] w (CopyS w l) := by
  intro n
  induction n with
  | zero => intro l v w hn; omega
  | succ n ih =>
    have IH := hid ih
    clear ih
    intro l v w hn hs hv
    obtain ⟨ka, b, off, c, rfl, hka, hin⟩ := SlS_iff.1 hv
    obtain ⟨m, hm⟩ : ∃ m, m = l.toL.length := ⟨_, rfl⟩
    have hl := l.len_le
    rw [← Sts.toL_len, ← hm] at hl
    rw [← hm] at hka ⊢
    have hM := hid hm
    have hI := hid hin
    have hS := hid (And.intro hn hs)
    have hkb : m ≤ 100000000 := by omega
    clear hn hs hin hv hm hl
    go_enter Tryz.func12, Tryz.ntmps12
    go_wp2_with fail
    go_loopw [3, 4] (fun x i wr => ∃ (k : Nat) (x0 : Value), x0 = x ∧ k ≤ m ∧ i = .int .i64 k ∧ Bld wr w.heap.size 60 8 (StmC wr (ZB w.heap.size wr.heap.size x0)) (l.toL.take k) x0 ∧ Below w.heap.size w wr) (fun _ i _ => m - (intOf i).toNat)
    case atStart => exact ⟨0, _, rfl, Nat.zero_le _, rfl, Bld.nil _ _ _ _ _, Below.refl _ _⟩
    case round =>
      obtain ⟨k, x0, rfl, hk, rfl, hbld, hb⟩ := hrel
      obtain ⟨wo, rfl⟩ : ∃ wo : World, wo = wr := ⟨_, rfl⟩
      have hsz0 : w.heap.size ≤ wo.heap.size := hb.size
      by_cases hlt : k < m
      · obtain ⟨⟨⟨t, z0, zt⟩, z1, z2, z3, z4⟩, ⟨vx, z5, hvx⟩, ⟨vb, z6, hvb⟩, ⟨ve, z7, hve⟩⟩ := hI.out k (by have := hM.out; omega)
        have ht := zt rfl
        subst ht
        have y0 := cell_on z0 hb
        have y1 := cell_on z1 hb
        have y2 := cell_on z2 hb
        have y3 := cell_on z3 hb
        have y4 := cell_on z4 hb
        have y5 := cell_on z5 hb
        have y6 := cell_on z6 hb
        have y7 := cell_on z7 hb
        have hsm := l.toL_sz _ (List.getElem_mem (l := l.toL) (n := k) (by have := hM.out; omega))
        have hka2 : ka = some ⟨b, off, none⟩ := by rcases hka with q | q; (· omega); (· exact q.1)
        have hSX := hid (And.intro hS.out hsm)
        have hV := hid (And.intro hvx (And.intro hvb hve))
        have hTk := hid (take_snoc' l.toL k (by have := hM.out; omega))
        subst hka2
        generalize l.toL[k]'(by have := hM.out; omega) = a at *
        obtain ⟨⟨c0, c1, c2, c3, c4⟩, ex, body, els⟩ := a
        simp only [] at y0 y1 y2 y3 y4 y5 y6 y7
        obtain ⟨xa, xb, xo, xc, hvxe, hxa, hxin⟩ := SlE_iff.1 hV.out.1
        simp only [] at hvxe hxa hxin
        subst hvxe
        obtain ⟨ba, bn, bc, hvbe⟩ := hV.out.2.1.shape
        subst hvbe
        obtain ⟨ea, en, ec, hvee⟩ := hV.out.2.2.shape
        subst hvee
        obtain ⟨m2, hm2⟩ : ∃ m2, m2 = ex.toL.length := ⟨_, rfl⟩
        rw [← hm2] at hxa y5
        have hxl := ex.len_le
        rw [← Exs.toL_len, ← hm2] at hxl
        have hm2b : m2 ≤ 100000000 := by have := hSX.out.1.2; have := hSX.out.2; simp only [] at this; omega
        have hM2 := hid hm2
        have hXI := hid hxin
        have hBl := hid hbld
        have hB := hid hb
        have hbl := World.block_lt_of_cell? wo _ y0
        simp only [] at hbl
        have hbne : b ≠ wo.heap.size := by omega
        clear hka hbld hb z0 z1 z2 z3 z4 z5 z6 z7 zt hvx hvb hve hsm hxl hm2 hxin
        go_wp2_with fail
        go_loopw [6, 7] (fun x i wr => ∃ (j : Nat) (x1 : Value), x1 = x ∧ j ≤ m2 ∧ i = .int .i64 j ∧ Bld wr (wo.heap.size + 1) 64 7 (ExpC wr (ZB (wo.heap.size + 1) wr.heap.size x1)) (ex.toL.take j) x1 ∧ Below (wo.heap.size + 1) (SW wo c0 c1 c2 c3 c4 (.slice xa m2 xc) (.slice ba bn bc) (.slice ea en ec)) wr) (fun _ i _ => m2 - (intOf i).toNat)
        case atStart => exact ⟨0, _, rfl, Nat.zero_le _, rfl, Bld.nil _ _ _ _ _, Below.refl _ _⟩
        case round =>
          obtain ⟨j, x1, rfl, hj, rfl, hbld, hb⟩ := hrel
          have hsz1 : wo.heap.size + 1 ≤ wr.heap.size := by have := hb.size; simp at this; omega
          have hbx : wr.cell? ⟨wo.heap.size, 5, none⟩ = some (.slice xa m2 xc) := by rw [hb.cell (by simp)]; go_simp
          have hWo : Below wo.heap.size wo wr := ((Below.refl _ _).alloc (Nat.le_refl _) _).trans (hb.mono (by omega))
          have hW : Below w.heap.size w wr := hB.out.trans (hWo.mono hsz0)
          by_cases hlt2 : j < m2
          · clear y0 y1 y2 y3 y4 y5 y6 y7
            obtain ⟨⟨⟨t, z0, zt⟩, z1, z2, z3, z4, z5⟩, ⟨u, z6, hu⟩⟩ := hXI.out j (by have := hM2.out; omega)
            have ht := zt rfl
            subst ht
            have y0 := cell_on z0 hW
            have y1 := cell_on z1 hW
            have y2 := cell_on z2 hW
            have y3 := cell_on z3 hW
            have y4 := cell_on z4 hW
            have y5 := cell_on z5 hW
            have y6 := cell_on z6 hW
            have hsm := ex.toL_sz _ (List.getElem_mem (l := ex.toL) (n := j) (by have := hM2.out; omega))
            have hxa2 : xa = some ⟨xb, xo, none⟩ := by rcases hxa with q | q; (· omega); (· exact q.1)
            have hCall := hid (copy55 _ (ex.toL[j]'(by have := hM2.out; omega)).1 (ex.toL[j]'(by have := hM2.out; omega)).2 u wr (Nat.lt_succ_self _) (by have := hSX.out.1.2; have := hSX.out.2; omega) (hu.mono hW))
            have hTk2 := hid (take_snoc' ex.toL j (by have := hM2.out; omega))
            subst hxa2
            generalize ex.toL[j]'(by have := hM2.out; omega) = a at *
            obtain ⟨⟨d0, d1, d2, d3, d4, d5⟩, kk⟩ := a
            simp only [] at y0 y1 y2 y3 y4 y5 y6
            have hBl2 := hid hbld
            have hB2 := hid hb
            have hW0 := hid hW
            clear hxa hbld hb hW hWo z0 z1 z2 z3 z4 z5 z6 zt hu hsm
            go_wp2_with fail
            refine hCall.out.mono ?_
            rintro e w2 ⟨u2, rfl, hu2, hg2⟩
            obtain ⟨ua, un, uc, rfl⟩ := hu2.shape
            obtain ⟨cs, hcs1, hcs2, hown⟩ := hBl2.out
            have hown2 := hown.kept hg2 (by cases x1.ownBlock <;> simp)
            have hCS := hid (And.intro hcs1 hcs2)
            have hlen : (ex.toL.take j).length = j := by have := hM2.out; simp; omega
            rw [hlen] at hown2
            have hO := hid hown2
            have hlt2 := hid (hown.lt)
            have hU2 := hid hu2
            have hG2 := hid hg2
            have hs2 := hid hg2.size
            clear hu2 hg2 hown hown2 hcs1 hcs2 hlen hCall hbx y0 y1 y2 y3 y4 y5 y6
            go_wp2_with (at_builtin; go_must (refine wpList_append_str rfl _ _ 58 rfl (wo.heap.size + 1) 64 64 (.agg #[.int .i64 0, .int .u8 0, .int .u32 0, .int .u8 0, .string ⟨#[]⟩, .string ⟨#[]⟩, .slice none 0 0]) 7 80 1 Tryz.underlying58 (by kernel_rfl) rfl (by decide) _ j _ [.int .i64 d0, .int .u8 d1, .int .u32 d2, .int .u8 d3, .string d4, .string d5, .slice ua un uc] (0, 0) hO.out rfl (by simp [Value.oneCell']) (by unfold maxLen; omega) (by omega) (by have := hs2.out; omega) rfl rfl ?_); intro v' w3 hA; have hA' := hid hA; clear hA)
            have hSt := hid (mkStep (B := wo.heap.size + 1) hG2.out hA'.out (fun q hq => (hlt2.out q hq).2) (by omega))
            go_roundw
            case rel =>
              refine ⟨j + 1, v', rfl, by omega, by go_num, ?_, ?_⟩
              · rw [hTk2.out]
                refine Bld.push hCS.out.1 hCS.out.2 (by have := hA'.out.own; rwa [show (ex.toL.take j).length = j by have := hM2.out; simp; omega]) rfl (fun a c h => h.step hSt.out) ⟨_, rfl, hU2.out.move hSt.out.grown2 hSt.out.new hSt.out.newz⟩
              · exact hB2.out.grown hSt.out.grown (by omega) (fun q hq => (hlt2.out q hq).1)
            case measure => simp [intOf]; omega
          · obtain rfl : j = m2 := by omega
            have hall : ex.toL.take j = ex.toL := List.take_of_length_le (by have := hM2.out; omega)
            rw [hall] at hbld
            obtain ⟨cs, hcs1, hcs2, hown⟩ := hbld
            rw [← hM2.out] at hown
            have hO := hid hown
            have hCS := hid (And.intro hcs1 hcs2)
            have hlt2 := hid (hown.lt)
            have hB2 := hid hb
            have hY := hid y5
            have hbe : wr.cell? ⟨wo.heap.size, 5, none⟩ = some (.slice xa j xc) := hbx
            clear hcs1 hcs2 hown hb hall hW hWo y0 y1 y2 y3 y4 y5 y6 y7
            go_wp2_with (at_builtin; go_must (refine wpList_append_str rfl _ _ 58 rfl (wo.heap.size + 1) 64 64 (.agg #[.int .i64 0, .int .u8 0, .int .u32 0, .int .u8 0, .string ⟨#[]⟩, .string ⟨#[]⟩, .slice none 0 0]) 7 80 1 Tryz.underlying58 (by kernel_rfl) rfl (by decide) _ j _ [.int .i64 (-7), .int .u8 0, .int .u32 0, .int .u8 0, .string ⟨#[]⟩, .string ⟨#[]⟩, .slice none 0 0] (0, 0) hO.out rfl (by simp [Value.oneCell']) (by unfold maxLen; omega) (by omega) (by omega) rfl rfl ?_); intro v' w3 hA; obtain ⟨g, cap, rfl, hg1, hg2, hg3, hg4⟩ := own_shape hA.own (by omega); have hB3 := hid (hB2.out.grown hA.grown (by omega) (fun q hq => (hlt2.out q hq).1)); have hA' := hid hA; clear hA; have hX3 := hid (sw_box hB3.out); have p5 := hX3.out.cell 5; have p6 := hX3.out.cell 6; have q5 := hX3.out.free 5; simp at p5 p6; have hW3 := hid (((Below.refl _ _).alloc (Nat.le_refl _) _).trans (hB3.out.mono (by omega)) : Below wo.heap.size wo w3); have y5 := cell_on hY.out hW3.out)
            have hSE := hid (expr_done' hA'.out hCS.out.1 hCS.out.2 (fun q hq => (hlt2.out q hq).2) (by omega) hg1 hM2.out)
            have hlo := hid hlt2.out
            clear hA' hCS hlt2 hO p5 p6 q5 y5 hB3 hB2 hbx hbe hXI hxa hY
            obtain ⟨vx', hvx'⟩ : ∃ vx', vx' = Value.slice (some ⟨g, 0, none⟩) j cap := ⟨_, rfl⟩
            obtain ⟨w4, hw4⟩ : ∃ w4, w4 = w3.setCell ⟨wo.heap.size, 5, none⟩ (.slice (some ⟨g, 0, none⟩) j cap) := ⟨_, rfl⟩
            have hX4 : Hid (Bx w4 wo.heap.size #[.int .i64 c0, .int .u8 c1, .string c2, .int .u8 c3, .string c4, .slice (some ⟨g, 0, none⟩) j cap, .slice ba bn bc, .slice ea en ec] 60) := hid (by rw [hw4]; exact hX3.out.set 5 _)
            have hG4 : Hid (w3.grownBy w4 (some wo.heap.size)) := hid (by rw [hw4]; exact grown_put (grown_refl _ _) _)
            have hW4 : Hid (Below wo.heap.size wo w4) := hid (by rw [hw4]; exact hW3.out.setCell (Nat.le_refl _) _)
            rw [← hw4]
            clear hw4 hX3 hW3
            refine (IH.out body _ w4 (by have := hSX.out.1; have := hSX.out.2; omega) (by have := hSX.out.1; have := hSX.out.2; omega) (hV.out.2.1.mono (hB.out.trans (hW4.out.mono hsz0)))).mono ?_
            rintro e w5 ⟨vb', rfl, hb5, hg5⟩
            obtain ⟨ba', bn', bc', rfl⟩ := hb5.shape
            have hX5 := hid (hX4.out.on hg5 (by simp))
            have hB5 := hid hb5
            have hG5 := hid hg5
            have p6 := hX5.out.cell 6
            have p7 := hX5.out.cell 7
            have q6 := hX5.out.free 6
            have hl4 := hid hX4.out.lt
            simp at p6 p7
            clear hb5 hg5 hX4
            go_wp2_with fail
            obtain ⟨w6, hw6⟩ : ∃ w6, w6 = w5.setCell ⟨wo.heap.size, 6, none⟩ (.slice ba' bn' bc') := ⟨_, rfl⟩
            have hX6 : Hid (Bx w6 wo.heap.size #[.int .i64 c0, .int .u8 c1, .string c2, .int .u8 c3, .string c4, .slice (some ⟨g, 0, none⟩) j cap, .slice ba' bn' bc', .slice ea en ec] 60) := hid (by rw [hw6]; exact hX5.out.set 6 _)
            have hG6 : Hid (w5.grownBy w6 (some wo.heap.size)) := hid (by rw [hw6]; exact grown_put (grown_refl _ _) _)
            have hW6 : Hid (Below wo.heap.size wo w6) := hid (by rw [hw6]; exact (hW4.out.trans ((below_of_grown hG5.out).mono hW4.out.size)).setCell (Nat.le_refl _) _)
            rw [← hw6]
            clear hw6 hX5 p6 p7 q6
            refine (IH.out els _ w6 (by have := hSX.out.1; have := hSX.out.2; omega) (by have := hSX.out.1; have := hSX.out.2; omega) (hV.out.2.2.mono (hB.out.trans (hW6.out.mono hsz0)))).mono ?_
            rintro e w7 ⟨ve', rfl, hb7, hg7⟩
            obtain ⟨ea', en', ec', rfl⟩ := hb7.shape
            have hX7 := hid (hX6.out.on hg7 (by simp))
            have hB7 := hid hb7
            have hG7 := hid hg7
            have p0 := hX7.out.cell 0
            have p1 := hX7.out.cell 1
            have p2 := hX7.out.cell 2
            have p3 := hX7.out.cell 3
            have p4 := hX7.out.cell 4
            have p5 := hX7.out.cell 5
            have p6 := hX7.out.cell 6
            have p7 := hX7.out.cell 7
            have q7 := hX7.out.free 7
            simp at p0 p1 p2 p3 p4 p5 p6 p7
            have hlt7 := hX7.out.lt
            have hGE : Hid (∀ vz, w7.grownBy (w7.setCell ⟨wo.heap.size, 7, none⟩ vz) (some wo.heap.size)) := hid (fun vz => grown_put (grown_refl _ _) _)
            have hWE : Hid (∀ vz, wo.grownBy (w7.setCell ⟨wo.heap.size, 7, none⟩ vz) none) := hid (fun vz => grown_of_below ((hW6.out.trans ((below_of_grown hG7.out).mono hW6.out.size)).setCell (Nat.le_refl _) _))
            have hsE : Hid (∀ vz, (w7.setCell ⟨wo.heap.size, 7, none⟩ vz).heap.size = w7.heap.size) := hid (fun vz => by simp [World.setCell])
            have hX : Hid (∀ vz, SlE (w7.setCell ⟨wo.heap.size, 7, none⟩ vz) true (some fun b => wo.heap.size ≤ b ∧ b < w7.heap.size) ex (.slice (some ⟨g, 0, none⟩) j cap)) := hid (fun vz => hSE.out.move (row := some wo.heap.size) (grown_trans (grown_trans (grown_trans hG4.out (grown_weak hG5.out)) (grown_trans hG6.out (grown_weak hG7.out))) (hGE.out vz)) (fun b hb => by simp; omega) (fun b hb => by have := hG4.out.size; have := hG5.out.size; have := hG6.out.size; have := hG7.out.size; omega))
            have hY : Hid (∀ vz, SlS (w7.setCell ⟨wo.heap.size, 7, none⟩ vz) true (some fun b => wo.heap.size ≤ b ∧ b < w7.heap.size) body (.slice ba' bn' bc')) := hid (fun vz => hB5.out.move (row := some wo.heap.size) (grown_trans (grown_trans hG6.out (grown_weak hG7.out)) (hGE.out vz)) (fun b hb => by have := hl4.out; simp; omega) (fun b hb => by have := hl4.out; have := hG6.out.size; have := hG7.out.size; omega))
            have hZ : Hid (∀ vz, SlS (w7.setCell ⟨wo.heap.size, 7, none⟩ vz) true (some fun b => wo.heap.size ≤ b ∧ b < w7.heap.size) els (.slice ea' en' ec')) := hid (fun vz => hB7.out.move (row := some wo.heap.size) (hGE.out vz) (fun b hb => by have := hX6.out.lt; simp; omega) (fun b hb => by have := hX6.out.lt; omega))
            obtain ⟨cs, hcs1, hcs2, hown⟩ := hBl.out
            have hlen : (l.toL.take k).length = k := by have := hM.out; simp; omega
            rw [hlen] at hown
            have hO : Hid (∀ vz, (w7.setCell ⟨wo.heap.size, 7, none⟩ vz).ownsRow w.heap.size 60 8 x0 k cs.flatten) := hid (fun vz => hown.kept (hWE.out vz) (by cases x0.ownBlock <;> simp))
            have hlt2 := hid (hown.lt)
            have hCS := hid (And.intro hcs1 hcs2)
            have hw7 : w.heap.size ≤ w7.heap.size := by omega
            clear hb7 hg7 hX6 hX7 hown hcs1 hcs2 hlen hSE hB5 hB7 hG4 hG5 hG6 hG7 hW4 hW6 hV hSX
            go_wp2_with (at_builtin; go_must (refine wpList_append_str rfl _ _ 37 rfl w.heap.size 60 60 (.agg #[.int .i64 0, .int .u8 0, .string ⟨#[]⟩, .int .u8 0, .string ⟨#[]⟩, .slice none 0 0, .slice none 0 0, .slice none 0 0]) 8 128 1 Tryz.underlying37 (by kernel_rfl) rfl (by decide) _ k _ [.int .i64 c0, .int .u8 c1, .string c2, .int .u8 c3, .string c4, .slice (some ⟨g, 0, none⟩) j cap, .slice ba' bn' bc', .slice ea' en' ec'] (0, 0) (hO.out _) rfl (by simp [Value.oneCell']) (by unfold maxLen; omega) (by omega) (by rw [hsE.out]; omega) rfl (by rw [hsE.out]; rfl) ?_); intro v' w9 hA; have hA' := hid hA; clear hA)
            have hSt := hid (mkStep (B := w.heap.size) (hWE.out _) hA'.out (fun q hq => (hlt2.out q hq).2) hsz0)
            go_roundw
            case rel =>
              refine ⟨k + 1, v', rfl, by omega, by go_num, ?_, ?_⟩
              · rw [hTk.out]
                refine Bld.push hCS.out.1 hCS.out.2 (by have := hA'.out.own; rwa [show (l.toL.take k).length = k by have := hM.out; simp; omega]) rfl (fun a c h => h.step hSt.out) ⟨_, _, _, rfl, (hX.out _).move hSt.out.grown2 (fun b hb => hSt.out.new b (by rw [hsE.out]; exact hb)) (fun b hb => hSt.out.newz b (by rw [hsE.out]; exact hb)), (hY.out _).move hSt.out.grown2 (fun b hb => hSt.out.new b (by rw [hsE.out]; exact hb)) (fun b hb => hSt.out.newz b (by rw [hsE.out]; exact hb)), (hZ.out _).move hSt.out.grown2 (fun b hb => hSt.out.new b (by rw [hsE.out]; exact hb)) (fun b hb => hSt.out.newz b (by rw [hsE.out]; exact hb))⟩
              · exact hB.out.grown hSt.out.grown hsz0 (fun q hq => (hlt2.out q hq).1)
            case measure => simp [intOf]; omega
      · obtain rfl : k = m := by omega
        have hall : l.toL.take k = l.toL := List.take_of_length_le (by have := hM.out; omega)
        rw [hall] at hbld
        obtain ⟨cs, hcs1, hcs2, hown⟩ := hbld
        rw [← hM.out] at hown
        have hO := hid hown
        have hCS := hid (And.intro hcs1 hcs2)
        have hlt2 := hid (hown.lt)
        have hB := hid hb
        clear hcs1 hcs2 hown hb hall
        go_wp2_with (at_builtin; go_must (refine wpList_append_str rfl _ _ 37 rfl w.heap.size 60 60 (.agg #[.int .i64 0, .int .u8 0, .string ⟨#[]⟩, .int .u8 0, .string ⟨#[]⟩, .slice none 0 0, .slice none 0 0, .slice none 0 0]) 8 128 1 Tryz.underlying37 (by kernel_rfl) rfl (by decide) _ k _ [.int .i64 (-7), .int .u8 0, .string ⟨#[]⟩, .int .u8 0, .string ⟨#[]⟩, .slice none 0 0, .slice none 0 0, .slice none 0 0] (0, 0) hO.out rfl (by simp [Value.oneCell']) (by unfold maxLen; omega) (by omega) (by omega) rfl rfl ?_); intro v' w3 hA; obtain ⟨g, cap, rfl, hg1, hg2, hg3, hg4⟩ := own_shape hA.own (by omega); have hA' := hid hA; clear hA)
        go_ret
        exact ⟨_, rfl, stmt_done hA'.out hCS.out.1 hCS.out.2 (fun q hq => (hlt2.out q hq).2) hsz0 hg1 hM.out, grown_of_below (hB.out.grown hA'.out.grown hsz0 (fun q hq => (hlt2.out q hq).1))⟩

end Go.Proofs.YtecpkadjnecbiaaGreatDoor
