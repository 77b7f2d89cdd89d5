/- Walks: a host in memory; New, made, Console. No condition. -/
import Derived.Laws.OwnMore
import Derived.Laws.ResultCell
import Derived.Test.YtmjholcpajfldaaGreatDoorHostA
import Derived.Test.YtmjholcpajfldaaGreatDoorSenM
namespace Go.Proofs.YtmjholcpajfldaaGreatDoor
open Go.RowKit
set_option linter.unusedVariables false
set_option linter.unusedSimpArgs false

/-- a block of cells -/
def Bx (w : World) (q : Nat) (cs : Array Value) (t : TypeId) : Prop := w.heap[q]? = some (.cells cs t (0, 0))
theorem Bx.cell {w : World} {q : Nat} {cs : Array Value} {t : TypeId} (h : Bx w q cs t) (i : Nat) : w.cell? ⟨q, i, none⟩ = cs[i]? := by
  unfold Bx at h
  simp [World.cell?, h]
theorem Bx.free {w : World} {q : Nat} {cs : Array Value} {t : TypeId} (h : Bx w q cs t) (i : Nat) : w.frozen? ⟨q, i, none⟩ = false := by
  unfold Bx at h
  simp [World.frozen?, h]
theorem Bx.lt {w : World} {q : Nat} {cs : Array Value} {t : TypeId} (h : Bx w q cs t) : q < w.heap.size := lt_of_block h
theorem Bx.new (w : World) (cs : Array Value) (t : TypeId) : Bx (w.alloc (.cells cs t)) w.heap.size cs t := heap_alloc_new w _
theorem Bx.on {w w' : World} {q : Nat} {cs : Array Value} {t : TypeId} (h : Bx w q cs t) {row : Option Nat} (hg : w.grownBy w' row) (hn : some q ≠ row) : Bx w' q cs t := (hg.block q h.lt hn).trans h
theorem Bx.set {w : World} {q : Nat} {cs : Array Value} {t : TypeId} (h : Bx w q cs t) (i : Nat) (v : Value) : Bx (w.setCell ⟨q, i, none⟩ v) q (cs.set! i v) t := by
  have hlt := h.lt
  have h' : w.heap[q] = .cells cs t (0, 0) := by have := h; unfold Bx at this; simpa [Array.getElem?_eq_getElem hlt] using this
  show (w.heap.modify q _)[q]? = _
  rw [Array.getElem?_eq_getElem (by simpa using hlt), Array.getElem_modify_self, h']
  rfl
/-- blocks ahead of n are kept but those of T -/
structure Kpt (T : Nat → Prop) (n : Nat) (w w' : World) : Prop where
  os : w'.os = w.os
  tape : w'.tape = w.tape
  output : w'.output = w.output
  size : w.heap.size ≤ w'.heap.size
  block : ∀ b, b < n → ¬ T b → w'.heap[b]? = w.heap[b]?
theorem Kpt.refl (T : Nat → Prop) (n : Nat) (w : World) : Kpt T n w w := ⟨rfl, rfl, rfl, Nat.le_refl _, fun _ _ _ => rfl⟩
theorem Kpt.trans {T : Nat → Prop} {n : Nat} {a b c : World} (h : Kpt T n a b) (k : Kpt T n b c) : Kpt T n a c :=
  ⟨k.os.trans h.os, k.tape.trans h.tape, k.output.trans h.output, Nat.le_trans h.size k.size, fun i hi ht => (k.block i hi ht).trans (h.block i hi ht)⟩
theorem Kpt.mono {T U : Nat → Prop} {n n' : Nat} {a b : World} (h : Kpt T n a b) (hn : n' ≤ n) (hT : ∀ b, b < n' → T b → U b) : Kpt U n' a b :=
  ⟨h.os, h.tape, h.output, h.size, fun i hi ht => h.block i (by omega) fun q => ht (hT i hi q)⟩
theorem Kpt.of {T : Nat → Prop} {n : Nat} {w w' : World} (h : Below n w w') : Kpt T n w w' := ⟨h.os, h.tape, h.output, h.size, fun b hb _ => h.block b hb⟩
theorem Kpt.gr {T : Nat → Prop} {n : Nat} {w w' : World} {row : Option Nat} (hg : w.grownBy w' row) (hn : n ≤ w.heap.size) (hr : ∀ k, row = some k → T k ∨ n ≤ k) : Kpt T n w w' := by
  refine ⟨hg.os, hg.tape, hg.output, hg.size, fun b hb ht => hg.block b (by omega) fun q => ?_⟩
  rcases hr b q.symm with h | h
  · exact ht h
  · omega
theorem Kpt.box {T : Nat → Prop} {n : Nat} {w w' : World} (h : Kpt T n w w') {q : Nat} {cs : Array Value} {t : TypeId} (hx : Bx w q cs t) (hn : q < n) (ht : ¬ T q) : Bx w' q cs t := (h.block q hn ht).trans hx
theorem Kpt.map {T : Nat → Prop} {n : Nat} {w w' : World} (h : Kpt T n w w') {b : Nat} {l : List (ByteArray × Value)} (hm : Mp w b l) (hn : b < n) (ht : ¬ T b) : Mp w' b l := by
  obtain ⟨es, c, h1, h2⟩ := hm
  exact ⟨es, c, (h.block b hn ht).trans h1, h2⟩
theorem cell_on {w w' : World} {a : Addr} {v : Value} (h : w.cell? a = some v) (hb : Below w.heap.size w w') : w'.cell? a = some v := (hb.cell (World.block_lt_of_cell? w _ h)).trans h
/-- bytes as values -/
def bv (l : List UInt8) : List Value := l.map fun b => .int .u8 (b.toNat : Int)
theorem bv_len (l : List UInt8) : (bv l).length = l.length := by simp [bv]
theorem bv_one (l : List UInt8) : ∀ u ∈ bv l, u.oneCell' = true := by
  intro u hu
  obtain ⟨_, _, rfl⟩ := List.mem_map.1 hu
  rfl
/-- a host in memory: its console's bytes, its variables, its seed and clock -/
structure Ho (w : World) (B h : Nat) (cv : Value) (con : List UInt8) (mb : Nat) (vs : List (ByteArray × Value)) (sd ck : Int) : Prop where
  bx : Bx w h #[cv, .map (some mb), .int .u64 sd, .int .u32 ck] 56
  own : w.ownsRow B 5 1 cv con.length (bv con)
  mp : Mp w mb vs
  lo : B ≤ h ∧ B ≤ mb
  sd : 0 < sd ∧ sd < 18446744073709551616
  ck : 0 ≤ ck ∧ ck < 4294967296
  cl : con.length ≤ 4096
  vl : vs.length ≤ 32
/-- the blocks of a host -/
def HT (h mb : Nat) (cv : Value) (b : Nat) : Prop := b = h ∨ b = mb ∨ cv.ownBlock = some b

theorem made21 {w : World} {B h mb : Nat} {cv : Value} {con : List UInt8} {vs : List (ByteArray × Value)} {sd ck : Int} (hH : Ho w B h cv con mb vs sd ck) :
    Calls Tryz.prog 21 #[.pointer (some ⟨h, 0, none⟩)] w fun e w' => e = .returned (.bool true) ∧ w = w' := by
  have c2 : w.cell? ⟨h, 2, none⟩ = some (.int .u64 sd) := by simpa using hH.bx.cell 2
  have hs := hH.sd
  have hq : (sd = 0) = False := eq_false (by omega)
  clear hH
  go_enter Tryz.func21, Tryz.ntmps21
  go_wp2_with fail
  go_ret
  simp [hq]
theorem made21_nil (w : World) : Calls Tryz.prog 21 #[.pointer none] w fun e w' => e = .returned (.bool false) ∧ w = w' := by
  go_enter Tryz.func21, Tryz.ntmps21
  go_wp2_with fail
  go_ret
  exact ⟨rfl, rfl⟩
theorem made21_zero {w : World} {h : Nat} (hc : w.cell? ⟨h, 2, none⟩ = some (.int .u64 0)) : Calls Tryz.prog 21 #[.pointer (some ⟨h, 0, none⟩)] w fun e w' => e = .returned (.bool false) ∧ w = w' := by
  go_enter Tryz.func21, Tryz.ntmps21
  go_wp2_with fail
  go_ret
  exact ⟨rfl, rfl⟩
def seedOf (sd : Int) : Int := if sd = 0 then 1 else sd
theorem new7 (sd : Int) (h0 : 0 ≤ sd) (h1 : sd < 18446744073709551616) (w : World) :
    Calls Tryz.prog 7 #[.int .u64 sd] w fun e w' => e = .returned (.pointer (some ⟨w.heap.size + 1, 0, none⟩)) ∧ Ho w' w.heap.size (w.heap.size + 1) (.slice none 0 0) [] w.heap.size [] (seedOf sd) 0 ∧ Below w.heap.size w w' ∧ w'.heap.size = w.heap.size + 2 := by
  have fin : ∀ s : Int, 0 < s → s < 18446744073709551616 → Ho ((w.alloc (.map #[] 0)).alloc (.cells #[.slice none 0 0, .map (some w.heap.size), .int .u64 s, .int .u32 0] 56)) w.heap.size (w.heap.size + 1) (.slice none 0 0) [] w.heap.size [] s 0 := fun s hs hs1 => by
    refine ⟨by simpa using Bx.new (w.alloc (.map #[] 0)) #[.slice none 0 0, .map (some w.heap.size), .int .u64 s, .int .u32 0] 56, World.ownsRow_nil _ _ _ _, (Mp.new w).on (World.grownBy_alloc _ _ none) (by simp), by omega, ⟨hs, hs1⟩, by omega, by simp, by simp⟩
  have hmm : (Instr.makeMap 54 none).run Tryz.prog w = .ok (.map (some w.heap.size)) (w.alloc (.map #[] 0)) := by kernel_rfl
  by_cases hz : sd = 0
  · subst hz
    have F := hid (fin 1 (by omega) (by omega))
    clear fin
    go_enter Tryz.func7, Tryz.ntmps7
    go_wp2_with fail
    go_ret
    exact ⟨by simp, F.out, by (repeat (first | exact Below.refl _ _ | refine Below.drew ?_ | refine Below.alloc ?_ (by simp <;> omega) _)), by simp⟩
  · have hq : (sd < 1) = False := eq_false (by omega)
    have F := hid (fin sd (by omega) h1)
    have hs : Hid (seedOf sd = sd) := by unfold Hid seedOf; rw [if_neg hz]
    clear fin hz
    go_enter Tryz.func7, Tryz.ntmps7
    go_wp2_with fail
    go_ret
    rw [hs.out]
    exact ⟨by simp, F.out, by (repeat (first | exact Below.refl _ _ | refine Below.drew ?_ | refine Below.alloc ?_ (by simp <;> omega) _)), by simp⟩
theorem value72 (x : Int) (w : World) : Calls Tryz.prog 72 #[.int .u32 x] w fun e w' => e = .returned (.agg #[.int .u32 x, .slice none 0 0]) ∧ Below w.heap.size w w' := by
  go_enter Tryz.func72, Tryz.ntmps72
  go_wp2_with fail
  refine bodyPost_ret (v := .agg #[.int .u32 x, .slice none 0 0]) (results_cell_row rfl _ _ w.heap.size _ _ _ _ rfl (heap_alloc_new w _) Tryz.underlying30 rfl (by kernel_rfl)) rfl ?_
  exact ⟨rfl, by (repeat (first | exact Below.refl _ _ | refine Below.drew ?_ | refine Below.alloc ?_ (by simp <;> omega) _))⟩

end Go.Proofs.YtmjholcpajfldaaGreatDoor
