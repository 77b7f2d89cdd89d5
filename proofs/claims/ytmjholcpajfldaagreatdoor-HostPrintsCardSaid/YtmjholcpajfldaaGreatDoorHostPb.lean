/- Walks: a strings.Builder of the call's own: a plain rune written, the text told. No condition. -/
import Derived.Test.YtmjholcpajfldaaGreatDoorHostMe
import Derived.Test.YtmjholcpajfldaaGreatDoorHostPa
import Derived.Test.YtmjholcpajfldaaGreatDoorShelf
import Derived.RangeFuncNested
import Derived.RangeFuncBound
import Derived.RangeFuncCalls
import Derived.RangeFuncLeaves
import Derived.Shelf.Abstract
import Derived.Shelf.RegionOpen
import Derived.OwnWalkIn
import Derived.TacticsInMore
import Derived.LoopNIn
import Derived.LoopIn
import Derived.Lib.Builder
import Derived.Lib.UnsafeStr
import Derived.Laws.Externs
namespace Go.Proofs.YtmjholcpajfldaaGreatDoor
open Go.RowKit
set_option linter.unusedVariables false
set_option linter.unusedSimpArgs false

set_option maxRecDepth 100000
open Go.Shelf

theorem u145 : Tryz.prog.underlying 145 = some (.pointer 147) := Tryz.underlying145
theorem bx_shape {w : World} {b : Nat} {cs : Array Value} {t : TypeId} (h : Bx w b cs t) : w.shape? b = some (t, cs.size) := by
  unfold Bx at h
  simp [World.shape?, h]
theorem info147 : ∃ j, Tryz.prog.info? 147 = some j ∧ j.size = 2 := Option.map_eq_some_iff.1 (show (Tryz.prog.info? 147).map (·.size) = some 2 by kernel_rfl)
theorem copyOld142 (b : Nat) (w : World) (v : Value) (hX : Bx w b #[.pointer (some ⟨b, 0, none⟩), v] 147) : Calls Tryz.prog 142 #[.pointer (some ⟨b, 0, none⟩)] w fun e w' => e = .returned (.tuple #[]) ∧ w' = w := by
  obtain ⟨j, hj, -⟩ := info147
  have h0 : w.cell? ⟨b, 0, none⟩ = some (.pointer (some ⟨b, 0, none⟩)) := by simpa using hX.cell 0
  have hj' := hid hj
  clear hX hj
  go_enter Tryz.func142, Tryz.ntmps142
  go_wp2
  rw [Lib.run_neq_ptr_same w _ u145 hj'.out]
  go_wp2
  go_end0
  exact ⟨rfl, rfl⟩
theorem copyNew142 (b : Nat) (w : World) (v : Value) (hX : Bx w b #[.pointer none, v] 147) : Calls Tryz.prog 142 #[.pointer (some ⟨b, 0, none⟩)] w fun e w' => e = .returned (.tuple #[]) ∧ w' = w.setCell ⟨b, 0, none⟩ (.pointer (some ⟨b, 0, none⟩)) := by
  obtain ⟨j, hj, hjs⟩ := info147
  have h0 : w.cell? ⟨b, 0, none⟩ = some (.pointer none) := by simpa using hX.cell 0
  have f0 := hX.free 0
  have hs := hid (bx_shape hX)
  have hj' := hid hj
  have hjs' := hid hjs
  clear hX hj hjs
  go_enter Tryz.func142, Tryz.ntmps142
  go_wp2
  rw [Lib.run_to_unsafe w ⟨b, 0, none⟩ u145 Tryz.underlying208 hj'.out (by rw [hjs'.out]; decide) hs.out (Nat.zero_lt_succ 1)]
  simp only [Result.andThen]
  rw [Oper.upon_value]
  go_wp2
  rw [run_callFunc_extern Tryz.func169 (by kernel_rfl) (by kernel_rfl) (by kernel_rfl) (e := Extern.AbiNoEscape.same) (by kernel_rfl)]
  rw [Lib.run_noEscape]
  simp only [Result.andThen]
  rw [Oper.upon_value]
  go_wp2
  rw [Lib.run_from_unsafe w ⟨b, 0, none⟩ Tryz.underlying208 u145 hj'.out hs.out (by kernel_rfl)]
  simp only [Result.andThen]
  rw [Oper.upon_value]
  go_wp2
  go_end0
  exact ⟨rfl, rfl⟩
/-- a builder that holds bytes -/
structure Bd (w : World) (B b : Nat) (l : List UInt8) : Prop where
  bx : ∃ p v, (p = .pointer none ∨ p = .pointer (some ⟨b, 0, none⟩)) ∧ Bx w b #[p, v] 147 ∧ w.ownsRow B 5 1 v l.length (bv l)
  lo : B ≤ b
/-- it has been written -/
structure Bu (w : World) (B b : Nat) (v : Value) (l : List UInt8) : Prop where
  bx : Bx w b #[.pointer (some ⟨b, 0, none⟩), v] 147
  ow : w.ownsRow B 5 1 v l.length (bv l)
theorem copy142 (B b : Nat) (l : List UInt8) (w : World) (h : Bd w B b l) : Calls Tryz.prog 142 #[.pointer (some ⟨b, 0, none⟩)] w fun e w' => e = .returned (.tuple #[]) ∧ (∃ v, Bu w' B b v l) ∧ KeepsOthers w w' ∧ Below B w w' := by
  obtain ⟨p, v, hp, hX, hO⟩ := h.bx
  rcases hp with rfl | rfl
  · refine (copyNew142 b w v hX).mono ?_
    rintro e w' ⟨rfl, rfl⟩
    have SG := grown_set w b 0 (.pointer (some ⟨b, 0, none⟩))
    refine ⟨rfl, ⟨v, by simpa using hX.set 0 (.pointer (some ⟨b, 0, none⟩)), hO.kept SG (.inr (row_ne_box hO hX (by decide)))⟩, KeepsOthers.setCell _ _ _, Below.setCell (p := ⟨b, 0, none⟩) (Below.refl _ _) h.lo _⟩
  · refine (copyOld142 b w v hX).mono ?_
    rintro e w' ⟨rfl, rfl⟩
    exact ⟨rfl, ⟨v, hX, hO⟩, KeepsOthers.refl _, Below.refl _ _⟩
theorem own_cells {w : World} {B e size n : Nat} {v : Value} {xs : List Value} (h : w.ownsRow B e size v n xs) : ∀ (j : Nat) (o : Obj), v.ownBlock = some j → w.heap[j]? = some o → o.isCells = true := by
  rintro j o hj ho
  rcases h.2 with ⟨rfl, -⟩ | ⟨g, cp, cur, rfl, hg, hh, r⟩
  · cases hj
  · simp only [Value.ownBlock, Option.some.injEq] at hj
    subst hj
    rw [hh] at ho
    cases ho
    rfl
theorem runeA (c : UInt8) (h : c.toNat ≤ 127) : Lib.runeCells (c.toNat : Int) = [.int .u8 (c.toNat : Int)] := by
  unfold Lib.runeCells
  rw [Lib.encodeRuneZ_one (by omega) (by omega)]
  rfl
theorem bv_app (l : List UInt8) (c : UInt8) : bv (l ++ [c]) = bv l ++ [.int .u8 (c.toNat : Int)] := by simp [bv]
theorem own_grown_alloc {w w' : World} {B e size n : Nat} {v : Value} {xs : List Value} {o : Obj} {q : Nat} {cs : Array Value} {t : TypeId} (hO : w.ownsRow B e size v n xs) (hg : (w.alloc o).grownBy w' v.ownBlock) (hX : Bx w q cs t) (hne : e ≠ t) : Bx w' q cs t := by
  have h1 := hX.below ((Below.refl w.heap.size w).alloc (Nat.le_refl _) o)
  exact h1.on hg (fun e => row_ne_box hO hX hne e.symm)
set_option maxHeartbeats 4000000 in
theorem write108 (B b : Nat) (l : List UInt8) (c : UInt8) (hc : c.toNat ≤ 127) (hl : l.length ≤ 1048576) (w : World) (h : Bd w B b l) (hB : B ≤ w.heap.size) :
    Calls Tryz.prog 108 #[.pointer (some ⟨b, 0, none⟩), .int .i32 (c.toNat : Int)] w fun e w' => (∃ v, e = .returned v) ∧ Bd w' B b (l ++ [c]) ∧ KeepsOthers w w' ∧ Below B w w' := by
  have hcp := hid (copy142 B b l w h)
  have hlo := hid h.lo
  have hL := hid hl
  have hB' := hid hB
  have hb0 : Hid (b < w.heap.size) := by obtain ⟨p, v, -, hX, -⟩ := h.bx; exact hid hX.lt
  have hap := hid (fun (w1 : World) (v : Value) (h1 : w1.ownsRow B 5 1 v l.length (bv l)) (h2 : B ≤ w1.heap.size) => Tryz.utf8_AppendRune_plain B v l.length (bv l) (c.toNat : Int) (by omega) (by omega) w1 h1 (by omega) h2)
  have hrc := hid (runeA c hc)
  have hcc := hid hc
  clear h hl hB hc
  go_enter Tryz.func108, Tryz.ntmps108
  go_wp2_with fail
  go_at_call 142
  refine hcp.out.mono ?_
  clear hcp
  rintro e w1 ⟨rfl, ⟨v, hU⟩, hk1, hb1⟩
  have c1 : w1.cell? ⟨b, 1, none⟩ = some v := by simpa using hU.bx.cell 1
  obtain ⟨ao, cap, rfl, -⟩ := own_any_shape hU.ow
  have hB1 := hid (Nat.le_trans hB'.out hb1.size)
  have ha := hid (hap.out w1 _ hU.ow hB1.out)
  have hU1 := hid hU
  have K1 := hid hk1
  have L1 := hid hb1
  clear hU hk1 hb1 hap
  go_wp2_with fail
  go_at_call 143
  refine ha.out.mono ?_
  clear ha
  rintro e w2 ⟨v', rfl, hO2, o, hg2⟩
  rw [hrc.out] at hO2
  obtain ⟨ao2, cap2, rfl, -⟩ := own_any_shape hO2
  have X2 := own_grown_alloc hU1.out.ow hg2 hU1.out.bx (by decide)
  have c2 : w2.cell? ⟨b, 1, none⟩ = some (.slice ao l.length cap) := by simpa using X2.cell 1
  have f2 := X2.free 1
  have K2 : KeepsOthers w1 w2 := (KeepsOthers.alloc w1 o).trans (KeepsOthers.of_grownBy hg2 (own_cells (hU1.out.ow.alloc o)))
  have L2 : Below B w1 w2 := ((Below.refl B w1).alloc hB1.out o).grown hg2 (by have := hB1.out; simp; omega) (fun k hk => (hU1.out.ow.lt k hk).1)
  have SG := grown_set w2 b 1 (.slice ao2 (l.length + 1) cap2)
  have X3 : Bx (w2.setCell ⟨b, 1, none⟩ (.slice ao2 (l.length + 1) cap2)) b #[.pointer (some ⟨b, 0, none⟩), .slice ao2 (l.length + 1) cap2] 147 := by simpa using X2.set 1 (.slice ao2 (l.length + 1) cap2)
  have O3 := hO2.kept SG (.inr (row_ne_box hO2 X2 (by decide)))
  have R := hid (show Bd (w2.setCell ⟨b, 1, none⟩ (.slice ao2 (l.length + 1) cap2)) B b (l ++ [c]) from ⟨⟨_, _, .inr rfl, X3, by rw [bv_app, List.length_append]; exact O3⟩, hlo.out⟩)
  have K3 := hid (K1.out.trans (K2.trans (KeepsOthers.setCell w2 ⟨b, 1, none⟩ (.slice ao2 (l.length + 1) cap2))))
  have L3 := hid ((L1.out.trans L2).setCell (p := ⟨b, 1, none⟩) hlo.out (.slice ao2 (l.length + 1) cap2))
  have c3 : (w2.setCell ⟨b, 1, none⟩ (.slice ao2 (l.length + 1) cap2)).cell? ⟨b, 1, none⟩ = some (.slice ao2 (l.length + 1) cap2) := by simpa using X3.cell 1
  clear X2 K2 L2 SG X3 O3 hO2 hg2 K1 L1 hU1
  go_wp2_with fail
  go_ret2
  exact ⟨⟨_, rfl⟩, R.out, K3.out, L3.out⟩
theorem keeps_freeze (w : World) (a : Addr) (n : Nat) : KeepsOthers w (w.freeze a n) := by
  unfold World.freeze
  split
  · exact KeepsOthers.refl w
  · refine ⟨by simp, fun k o hk ho => ?_⟩
    simp only [Array.getElem?_modify]
    split
    · rw [hk]
      cases o <;> first | rfl | (simp [Obj.isCells] at ho)
    · exact hk
set_option maxHeartbeats 4000000 in
theorem string110 (B b : Nat) (l : List UInt8) (w : World) (h : Bd w B b l) (h0 : 0 < l.length) :
    Calls Tryz.prog 110 #[.pointer (some ⟨b, 0, none⟩)] w fun e w' => e = .returned (.string ⟨l.toArray⟩) ∧ Below B w w' ∧ KeepsOthers w w' := by
  obtain ⟨p, v, -, hX, hO⟩ := h.bx
  obtain ⟨g, cap, cur, rfl, hbg, hg, hnc, hcm, hcs, htake⟩ : ∃ g cap cur, v = .slice (some ⟨g, 0, none⟩) l.length cap ∧ B ≤ g ∧ w.heap[g]? = some (.cells cur 5 (0, 0)) ∧ l.length ≤ cap ∧ cap ≤ maxLen ∧ cur.size = cap * 1 ∧ cur.toList.take (l.length * 1) = bv l := by
    rcases hO.2 with ⟨_, hz⟩ | ⟨g, cap, cur, hv, r⟩
    · omega
    · exact ⟨g, cap, cur, hv, r⟩
  have c1 : w.drew.cell? ⟨b, 1, none⟩ = some (.slice (some ⟨g, 0, none⟩) l.length cap) := by simpa using hX.cell 1
  have hSD : (Builtin.unsafeSliceData_ #[27] 183 #[.slice (some ⟨g, 0, none⟩) l.length cap]).run Tryz.prog w.drew = .ok (.pointer (some ⟨g, 0, none⟩)) w.drew :=
    Lib.run_unsafeSliceData_row _ _ _ _ _ _ (by omega)
  have hUS : (Builtin.unsafeString_ #[183, 3] 9 #[.pointer (some ⟨g, 0, none⟩), .int .i64 l.length]).run Tryz.prog w.drew = .ok (.string ⟨l.toArray⟩) (w.drew.freeze ⟨g, 0, none⟩ l.length) := by
    refine Lib.run_unsafeString_row w.drew 183 3 9 5 Tryz.underlying183 (by kernel_rfl) g cur.size (by have hg' : w.drew.heap[g]? = some (.cells cur 5 (0, 0)) := hg; simp [World.shape?, hg']) l (fun e => by rw [e] at h0; simp at h0) (by omega) (by unfold maxLen at hcm; omega) ?_
    intro j x hx
    have h1 := hO.cells (g := g) rfl j (.int .u8 x.toNat) (by simp [bv, hx])
    exact h1
  have mixed : Tryz.prog.follows Departure.mixedOrders = true := by kernel_rfl
  have hbg' := hid hbg
  have hl' := hid h0
  clear hX hO h htake hcs hcm hnc hg hbg h0
  go_enter Tryz.func110, Tryz.ntmps110
  go_wp2
  go_region_o
  all_goals (go_wp2; go_ret; exact ⟨rfl, Lib.below_freeze (Below.drew (Below.refl B w)) (p := ⟨g, 0, none⟩) hbg'.out _, (KeepsOthers.drew w).trans (keeps_freeze _ _ _)⟩)

end Go.Proofs.YtmjholcpajfldaaGreatDoor
