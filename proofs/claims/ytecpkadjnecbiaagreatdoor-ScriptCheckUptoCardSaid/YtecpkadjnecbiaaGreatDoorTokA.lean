/- Walks: the cutting of a text into runes, as an iterator. No condition. -/
import Derived.Test.YtecpkadjnecbiaaGreatDoorProg
import Derived.Test.YtecpkadjnecbiaaGreatDoorKit
import Derived.RangeFuncNested
import Derived.RangeFuncBound
import Derived.RangeFuncCalls
import Derived.RangeFuncLeaves
import Derived.Shelf.Abstract
import Derived.WalkKit
import Derived.OwnWalkIn
import Derived.TacticsInMore
import Derived.LoopNIn
import Derived.LoopIn
import Derived.Lib.OthersKept
import Derived.RangeFuncBox
import Derived.WalkSmall
namespace Go.Proofs.YtecpkadjnecbiaaGreatDoor
open Go.RowKit
set_option linter.unusedVariables false
set_option linter.unusedSimpArgs false

open Go.Shelf
attribute [local go_sem] Oper.semAt_some

/-- does a text begin with another? -/
def prefixed (s p : ByteArray) : Bool := decide (p.size ≤ s.size) && ((s.extract 0 p.size).toList == p.toList)
/-- what is lost at a place: no rune's code begins there -/
def lostAt (s : ByteArray) (i : Nat) : Bool := (Utf8.decode s i).1 == 65533 && !prefixed (s.extract i s.size) ⟨#[239, 191, 189]⟩
def codeAt (s : ByteArray) (i : Nat) : Int := if lostAt s i then -1 - ((s.get! i).toNat : Int) else ((Utf8.decode s i).1 : Int)
def cutsN (s : ByteArray) : Nat → Nat → List (Nat × Int)
  | 0, _ => []
  | n + 1, i => if i < s.size then (i, codeAt s i) :: cutsN s n (i + (Utf8.decode s i).2) else []
def cuts (s : ByteArray) : List (Nat × Int) := cutsN s s.size 0
theorem cutsN_end (s : ByteArray) : ∀ n i, s.size ≤ i → cutsN s n i = []
  | 0, _, _ => rfl
  | n + 1, i, h => by simp only [cutsN]; rw [if_neg (by omega)]
theorem decode_wide (s : ByteArray) (i : Nat) : 1 ≤ (Utf8.decode s i).2 := by
  simp only [Utf8.decode]
  repeat' split
  all_goals simp

set_option maxHeartbeats 1000000 in
theorem prefix107 (s p : ByteArray) (w : World) (hs : s.size ≤ 1048576) (hp : p.size ≤ 1048576) :
    Calls Tryz.prog 107 #[.string s, .string p] w fun e w' => e = .returned (.bool (prefixed s p)) ∧ w' = w := by
  go_enter Tryz.func107, Tryz.ntmps107
  by_cases h : p.size ≤ s.size
  · go_wp2_with fail
    go_ret
    exact ⟨ret_bool (by simp [prefixed, h]), rfl⟩
  · go_wp2_with fail
    go_ret
    exact ⟨ret_bool (by simp [prefixed, h]), rfl⟩
theorem prefix97 (s p : ByteArray) (w : World) (hs : s.size ≤ 1048576) (hp : p.size ≤ 1048576) :
    Calls Tryz.prog 97 #[.string s, .string p] w fun e w' => e = .returned (.bool (prefixed s p)) ∧ w' = w := by
  have hc := prefix107 s p w hs hp
  go_enter Tryz.func97, Tryz.ntmps97
  go_wp2_with fail
  refine hc.mono ?_
  rintro e w2 ⟨rfl, rfl⟩
  go_wp2_with fail
  go_ret
  exact ⟨rfl, rfl⟩
theorem cutting74 (s : ByteArray) (w : World) :
    Calls Tryz.prog 74 #[.string s] w fun e w' => e = .returned (.func (.func 96) #[] #[.pointer (some ⟨w.heap.size, 0, none⟩)]) ∧ w' = w.alloc (.cells #[.string s] 9) := by
  go_enter Tryz.func74, Tryz.ntmps74
  go_wp2_with fail
  go_ret
  exact ⟨rfl, rfl⟩

theorem grown_iterAt (w : World) (k : Nat) (s : ByteArray) (pos : Nat) : w.grownBy (w.iterAt k s pos) (some k) :=
  ⟨rfl, rfl, rfl, by simp [World.iterAt], fun j _ hj => Go.Lib.iterAt_other w k j s pos (fun e => hj (by rw [e]))⟩
/-- what a round keeps -/
def Kc (n₀ : Nat) (A B : World) : Prop := Below n₀ A B ∧ KeepsWalks A B
theorem Kc.t {n₀ : Nat} {A B C : World} (h : Kc n₀ A B) (k : Kc n₀ B C) : Kc n₀ A C := ⟨h.1.trans k.1, h.2.trans k.2⟩

theorem lost_code (s : ByteArray) (pos : Nat) (hp : pos < s.size) : (if ((65533 : Nat) == 65533 && !false) = true then -1 - ((s.get! pos).toNat : Int) else ((65533 : Nat) : Int)) = wrap32 (-1 - wrap32 ((s[pos]'hp).toNat : Int)) := by
  have h1 : s.get! pos = s[pos]'hp := get_at s pos hp
  have h2 := (s[pos]'hp).toNat_lt
  rw [if_pos (by decide), h1]
  unfold wrap32
  omega
set_option maxRecDepth 100000 in
set_option maxHeartbeats 1000000 in
theorem cut96 (n : Nat) (hn : 1 ≤ n) (l Bn n₀ : Nat) (s : ByteArray) (hs : s.size ≤ 1048576) (J Jx : List (Nat × Int) → World → Prop) (W : World) (hJ : AbidesFrom W.heap.size J)
    (hY : ∀ pre x W1, J pre W1 → pre.length < (cuts s).length → YieldAt Fence.wide (n - 1) Tryz.prog l #[.int .i64 x.1, .int .i32 x.2] W1 fun e W' =>
      (e = .returned (.bool true) ∧ J (pre ++ [x]) W' ∧ Kc n₀ W1 W') ∨ (e = .returned (.bool false) ∧ Jx (pre ++ [x]) W'))
    (hBn : Bn < n₀) (hn0 : n₀ ≤ W.heap.size) (hc : W.cell? ⟨Bn, 0, none⟩ = some (.string s)) (h0 : J [] W) :
    CallsIn Fence.wide n Tryz.prog 96 #[.func (.yield l) #[] #[], .pointer (some ⟨Bn, 0, none⟩)] W fun e W' => (∃ v, e = .returned v) ∧
      ((∃ ys, ys = cuts s ∧ J ys W') ∨ (∃ pre, pre <+: cuts s ∧ Jx pre W')) := by
  refine callsIn_of_wp Tryz.func96 rfl trivial ?_ rfl
  simp only [Tryz.ntmps96, List.size_toArray, List.length_cons, List.length_nil, Nat.reduceAdd, Nat.reduceSub, Array.replicate_succ, Array.replicate_zero, List.push_toArray, List.append_toArray, List.nil_append, List.cons_append]
  gi_wp2
  gi_loopw [3, 4] (fun _ _ wr => ∃ (pre : List (Nat × Int)) (m pos : Nat), cuts s = pre ++ cutsN s m pos ∧ s.size ≤ m + pos ∧ wr.heap[W.heap.size]? = some (.stringIter s pos) ∧ wr.cell? ⟨Bn, 0, none⟩ = some (.string s) ∧ J pre wr ∧ W.heap.size < wr.heap.size)
    (fun _ _ wr => s.size - wr.iterPos W.heap.size)
  case atStart =>
    have hgI : W.grownBy (W.iter s 0) none := World.grownBy_alloc W _ none
    refine ⟨[], s.size, 0, rfl, by omega, World.iter_heap W s 0, hgI.cell hc (by simp), hJ [] W _ none h0 hgI (fun r e => by cases e), (Array.getElem?_eq_some_iff.1 (World.iter_heap W s 0)).1⟩
  case round =>
    obtain ⟨pre, m, pos, hx, hm, hk, hcb, hJs, hlt⟩ := hrel
    by_cases hp : pos < s.size
    · have hnx := Go.Lib.run_next_any_at (P := Tryz.prog) wr W.heap.size s pos 0 hk hp
      have hw1 := decode_wide s pos
      obtain ⟨width, hwd⟩ : ∃ k, k = (Utf8.decode s pos).2 := ⟨_, rfl⟩
      rw [← hwd] at hw1
      rw [← hwd] at hnx
      obtain ⟨w1, hw1e⟩ : ∃ w1, w1 = wr.iterAt W.heap.size s (pos + width) := ⟨_, rfl⟩
      rw [← hw1e] at hnx
      have hg1 : wr.grownBy w1 (some W.heap.size) := by rw [hw1e]; exact grown_iterAt _ _ _ _
      have hk1 : w1.heap[W.heap.size]? = some (.stringIter s (pos + width)) := by rw [hw1e]; exact Go.Lib.iterAt_heap _ _ _ _ _ hk
      have hcb1 : w1.cell? ⟨Bn, 0, none⟩ = some (.string s) := hg1.cell hcb (by simp; omega)
      have hJ1 : J pre w1 := hJ pre wr w1 _ hJs hg1 (fun r e => by cases e; exact ⟨Nat.le_refl _, _, hk, rfl⟩)
      have hlt1 : W.heap.size < w1.heap.size := Nat.lt_of_lt_of_le hlt hg1.size
      cases m with
      | zero => omega
      | succ m =>
        have hx' := hx
        simp only [cutsN] at hx'
        rw [if_pos hp, ← hwd] at hx'
        have hlen : pre.length < (cuts s).length := by rw [hx']; simp
        have hYx := hY pre (pos, codeAt s pos) w1 hJ1 hlen
        have hNext : Hid (∀ W3, J (pre ++ [(pos, codeAt s pos)]) W3 → Kc n₀ w1 W3 → ∃ (pre' : List (Nat × Int)) (m' pos' : Nat), cuts s = pre' ++ cutsN s m' pos' ∧ s.size ≤ m' + pos' ∧ W3.heap[W.heap.size]? = some (.stringIter s pos') ∧ W3.cell? ⟨Bn, 0, none⟩ = some (.string s) ∧ J pre' W3 ∧ W.heap.size < W3.heap.size) := hid (fun W3 h3 hK => ⟨pre ++ [(pos, codeAt s pos)], m, pos + width, by simp [hx'], by omega, hK.2.same _ _ hk1 rfl, (hK.1.cell (p := ⟨Bn, 0, none⟩) hBn).trans hcb1, h3, Nat.lt_of_lt_of_le hlt1 hK.1.size⟩)
        have hMe : Hid (∀ W3, Kc n₀ w1 W3 → s.size - W3.iterPos W.heap.size < s.size - wr.iterPos W.heap.size) := hid (fun W3 hK => by rw [iterPos_of (hK.2.same _ _ hk1 rfl), iterPos_of hk]; omega)
        have hEnd : Hid ((pre ++ [(pos, codeAt s pos)]) <+: cuts s) := hid ⟨cutsN s m (pos + width), by simp [hx']⟩
        have hHas : Hid (CallsIn Fence.wide (n - 1) Tryz.prog 97 #[.string (s.extract pos s.size), .string ⟨#[239, 191, 189]⟩] w1 fun e w' => e = .returned (.bool (prefixed (s.extract pos s.size) ⟨#[239, 191, 189]⟩)) ∧ w' = w1) := hid (callsIn_wide.2 (prefix97 _ _ _ (by simp; omega) (by decide)))
        have hHid := hid (And.intro hJ hY)
        clear hJ hY hx hx' hlen hJs hcb hg1 hw1e
        by_cases hd : (Utf8.decode s pos).1 = 65533
        · rw [hd] at hnx
          cases hpf : prefixed (s.extract pos s.size) ⟨#[239, 191, 189]⟩
          · have hcode : codeAt s pos = wrap32 (-1 - wrap32 ((s[pos]'hp).toNat : Int)) := by simp only [codeAt, lostAt, hpf, hd]; exact lost_code s pos hp
            rw [hcode] at hYx hNext hEnd
            obtain ⟨fn, tmps, assign, body, hy, hR⟩ := hYx
            dsimp only at hy
            rw [hpf] at hHas
            gi_wp2_with (refine ⟨trivial, ?_⟩; gi_at_call 97; refine hHas.out.mono ?_; rintro e w' ⟨rfl, rfl⟩)
            refine hR.mono ?_
            rintro e W3 (⟨rfl, h3, hk3⟩ | ⟨rfl, h3⟩)
            · gi_wp2
              go_roundw
              case rel => exact hNext.out W3 h3 hk3
              case measure => exact hMe.out W3 hk3
            · gi_wp2
              refine bodyPost_ret (results_none rfl _ _ _) rfl ?_
              exact ⟨⟨_, rfl⟩, .inr ⟨_, hEnd.out, h3⟩⟩
          · have hcode : codeAt s pos = 65533 := by simp [codeAt, lostAt, hpf, hd]
            rw [hcode] at hYx hNext hEnd
            obtain ⟨fn, tmps, assign, body, hy, hR⟩ := hYx
            dsimp only at hy
            rw [hpf] at hHas
            gi_wp2_with (refine ⟨trivial, ?_⟩; gi_at_call 97; refine hHas.out.mono ?_; rintro e w' ⟨rfl, rfl⟩)
            refine hR.mono ?_
            rintro e W3 (⟨rfl, h3, hk3⟩ | ⟨rfl, h3⟩)
            · gi_wp2
              go_roundw
              case rel => exact hNext.out W3 h3 hk3
              case measure => exact hMe.out W3 hk3
            · gi_wp2
              refine bodyPost_ret (results_none rfl _ _ _) rfl ?_
              exact ⟨⟨_, rfl⟩, .inr ⟨_, hEnd.out, h3⟩⟩
        · have hcode : codeAt s pos = ((Utf8.decode s pos).1 : Int) := by simp [codeAt, lostAt, hd]
          rw [hcode] at hYx hNext hEnd
          obtain ⟨fn, tmps, assign, body, hy, hR⟩ := hYx
          have hdd : (((Utf8.decode s pos).1 : Int) == 65533) = false := by simp; omega
          dsimp only at hy
          gi_wp2
          refine ⟨trivial, ?_⟩
          gi_wp2
          refine hR.mono ?_
          rintro e W3 (⟨rfl, h3, hk3⟩ | ⟨rfl, h3⟩)
          · gi_wp2
            go_roundw
            case rel => exact hNext.out W3 h3 hk3
            case measure => exact hMe.out W3 hk3
          · gi_wp2
            refine bodyPost_ret (results_none rfl _ _ _) rfl ?_
            exact ⟨⟨_, rfl⟩, .inr ⟨_, hEnd.out, h3⟩⟩
    · have hnx := Go.Lib.run_next_end_at (P := Tryz.prog) wr W.heap.size s pos 0 hk hp
      rw [cutsN_end s m pos (by omega), List.append_nil] at hx
      gi_wp2
      go_end0
      exact ⟨⟨_, rfl⟩, .inl ⟨pre, hx.symm, hJs⟩⟩

end Go.Proofs.YtecpkadjnecbiaaGreatDoor
