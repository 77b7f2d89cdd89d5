/- Walks: the iterator over a plain text's runes. No condition. -/
import Derived.Test.YtmjholcpajfldaaGreatDoorHostPb
import Derived.Lib.BufferKept
import Derived.Lib.OthersKept
namespace Go.Proofs.YtmjholcpajfldaaGreatDoor
open Go.RowKit
set_option linter.unusedVariables false
set_option linter.unusedSimpArgs false

set_option maxRecDepth 100000
open Go.Shelf
attribute [local go_sem] Oper.semAt_some

/-- a place and its plain byte -/
abbrev PC := { p : Nat × UInt8 // 32 ≤ p.2.toNat ∧ p.2.toNat < 127 }
abbrev encC (x : PC) : Array Value := #[.int .i64 (x.1.1 : Int), .int .i32 (x.1.2.toNat : Int)]
def upC (f : Nat → PC) (k : Nat) : List PC := (List.range k).map f
theorem upC_succ (f : Nat → PC) (k : Nat) : upC f (k + 1) = upC f k ++ [f k] := by simp [upC, List.range_succ]
theorem upC_len (f : Nat → PC) (k : Nat) : (upC f k).length = k := by simp [upC]
theorem grown_iterAt (w : World) (k : Nat) (s : ByteArray) (p : Nat) : w.grownBy (w.iterAt k s p) (some k) :=
  ⟨rfl, rfl, rfl, by rw [Lib.iterAt_size]; exact Nat.le_refl _, fun i _ hn => Lib.iterAt_other w k i s p (fun e => hn (by rw [e]))⟩
set_option maxHeartbeats 2000000 in
theorem cut1_in (F : Fence) (n : Nat) (hF : F.fn 141) (h117 : F.fn 117) (hro : F.round = none) (hn : 1 ≤ n) (l Bs : Nat) (s : ByteArray) (f : Nat → PC) (hf : ∀ i (h : i < s.size), (f i).1 = (i, s[i])) (J Jx : List PC → World → Prop)
    (hY : ∀ pre x W, J pre W → pre.length < s.size → YieldAt F (n - 1) Tryz.prog l (encC x) W fun e W' =>
      (e = .returned (.bool true) ∧ J (pre ++ [x]) W' ∧ KeepsWalks W W') ∨ (e = .returned (.bool false) ∧ Jx (pre ++ [x]) W'))
    (W : World) (hJ : AbidesFrom W.heap.size J) (hBs : W.cell? ⟨Bs, 0, none⟩ = some (.string s)) (h0 : J [] W) :
    CallsIn F n Tryz.prog 141 #[.func (.yield l) #[] #[], .pointer (some ⟨Bs, 0, none⟩)] W fun e W' => (∃ v, e = .returned v) ∧
      ((∃ ys, ys = upC f s.size ∧ J ys W') ∨ (∃ pre, True ∧ Jx pre W')) := by
  refine callsIn_of_wp Tryz.func141 rfl hF ?_ hro
  have hi0 : (W.iter s 0).heap[W.heap.size]? = some (.stringIter s 0) := World.iter_heap W s 0
  have hJ0 : J [] (W.iter s 0) := hJ [] W (W.iter s 0) none h0 (World.grownBy_alloc W _ none) (fun r e => by cases e)
  simp only [Tryz.ntmps141, List.size_toArray, List.length_cons, List.length_nil, Nat.reduceAdd, Nat.reduceSub, Array.replicate_succ, Array.replicate_zero, List.push_toArray, List.append_toArray, List.nil_append, List.cons_append]
  gi_wp2
  gi_loopw [3, 4] (fun _ _ wr => ∃ k : Nat, k ≤ s.size ∧ wr.heap[W.heap.size]? = some (.stringIter s k) ∧ J (upC f k) wr) (fun _ _ wr => s.size - wr.iterPos W.heap.size)
  case atStart => exact ⟨0, Nat.zero_le _, hi0, hJ0⟩
  case round =>
    obtain ⟨k, hk, hit, hJs⟩ := hrel
    clear hi0 hJ0
    have hmu : wr.iterPos W.heap.size = k := by simp [World.iterPos, hit]
    by_cases hlt : k < s.size
    · have hfk := hf k hlt
      have hc : 32 ≤ s[k].toNat ∧ s[k].toNat < 127 := by have := (f k).2; rw [hfk] at this; exact this
      have hnext : ∀ ty, (Instr.next (.pointer (some ⟨W.heap.size, 0, none⟩)) true ty).run Tryz.prog wr = _ := fun ty => Lib.run_next_ascii_at wr W.heap.size s k ty hit hlt (by omega)
      have hne : ((s[k].toNat : Int) = 65533) = False := eq_false (by omega)
      have hne2 : ((s[k].toNat : Int) == 65533) = false := by simp; omega
      have hJ1 := hJ _ wr (wr.iterAt W.heap.size s (k + 1)) (some W.heap.size) hJs (grown_iterAt _ _ _ _) (fun r e => by cases e; exact ⟨Nat.le_refl _, _, hit, rfl⟩)
      have hit1 := Lib.iterAt_heap wr W.heap.size s k (k + 1) hit
      obtain ⟨fn, tmps, assign, body, hy, hR⟩ := hY _ (f k) _ hJ1 (by rw [upC_len]; exact hlt)
      simp only [encC, hfk] at hy
      gi_wp2
      refine hR.mono ?_
      rintro e W3 (⟨rfl, hJ3, hk3⟩ | ⟨rfl, hJx3⟩)
      · gi_wp2
        have hit3 := hk3.same _ _ hit1 rfl
        go_roundw
        case rel => exact ⟨k + 1, by omega, hit3, by rw [upC_succ]; exact hJ3⟩
        case measure => rw [hmu, show W3.iterPos W.heap.size = k + 1 by simp [World.iterPos, hit3]]; omega
      · gi_wp2
        refine bodyPost_ret (results_none rfl _ _ _) rfl ?_
        exact ⟨⟨_, rfl⟩, .inr ⟨_, trivial, hJx3⟩⟩
    · obtain rfl : k = s.size := by omega
      have hnext : ∀ ty, (Instr.next (.pointer (some ⟨W.heap.size, 0, none⟩)) true ty).run Tryz.prog wr = _ := fun ty => Lib.run_next_end_at wr W.heap.size s s.size ty hit hlt
      gi_wp2
      go_end0
      exact ⟨⟨_, rfl⟩, .inl ⟨_, rfl, hJs⟩⟩
theorem cut_stops (F : Fence) (n : Nat) (hF : F.fn 141) (h117 : F.fn 117) (hro : F.round = none) (hn : 1 ≤ n) (Bs : Nat) (s : ByteArray) (f : Nat → PC) (hf : ∀ i (h : i < s.size), (f i).1 = (i, s[i])) (w : World) (hlt : Bs < w.heap.size) (hc : w.cell? ⟨Bs, 0, none⟩ = some (.string s)) :
    SeqStopsK F n Tryz.prog 141 #[.pointer (some ⟨Bs, 0, none⟩)] encC KeepsWalks (fun ys => ys = upC f s.size) (fun _ => True) s.size w := fun l J Jx W hW hJ _ hY h0 =>
  cut1_in F n hF h117 hro hn l Bs s f hf J Jx hY W hJ ((hW.cell (p := ⟨Bs, 0, none⟩) hlt).trans hc) h0
theorem cutting106 (s : ByteArray) (w : World) : Calls Tryz.prog 106 #[.string s] w fun e w' => e = .returned (.func (.func 141) #[] #[.pointer (some ⟨w.heap.size, 0, none⟩)]) ∧ w' = w.alloc (.cells #[.string s] 9) := by
  go_enter Tryz.func106, Tryz.ntmps106
  go_wp2_with fail
  go_ret
  exact ⟨rfl, rfl⟩
theorem printed107 (c : UInt8) (h : 32 ≤ c.toNat ∧ c.toNat < 127) (w : World) : Calls Tryz.prog 107 #[.int .i32 (c.toNat : Int)] w fun e w' => e = .returned (.bool true) ∧ w' = w := by
  have h1 : (c.toNat : Int) ≠ 10 := by omega
  have h2 : (32 : Int) ≤ (c.toNat : Int) := by omega
  have h3 : (c.toNat : Int) < 127 := by omega
  clear h
  go_enter Tryz.func107, Tryz.ntmps107
  go_wp2_with fail
  go_ret
  exact ⟨rfl, rfl⟩

end Go.Proofs.YtmjholcpajfldaaGreatDoor
