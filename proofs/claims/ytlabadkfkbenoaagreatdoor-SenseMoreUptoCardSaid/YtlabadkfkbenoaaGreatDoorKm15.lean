/- Walks and plain laws, merged: AluF AluC AluD AluE EvlA AluG. No condition. -/
import Derived.Test.YtlabadkfkbenoaaGreatDoorKm14
import Derived.Test.YtlabadkfkbenoaaGreatDoorKm10
import Derived.Test.YtlabadkfkbenoaaGreatDoorKm09
import Derived.Test.YtlabadkfkbenoaaGreatDoorKm13
namespace Go.Proofs.YtlabadkfkbenoaaGreatDoor
open Go.RowKit
set_option linter.unusedVariables false
set_option linter.unusedSimpArgs false
set_option maxRecDepth 100000
set_option maxHeartbeats 64000000
section
def binV (op a b : Int) : Option Int :=
 if op = 39 then some ((a + b) % 4294967296) else if op = 40 then some ((a - b) % 4294967296) else if op = 41 then some (a * b % 4294967296)
 else if op = 42 then if wrap32 b = 0 then none else some (wrap32 ((wrap32 a).tdiv (wrap32 b)) % 4294967296)
 else if op = 44 then if wrap32 b = 0 then none else some ((wrap32 a).tmod (wrap32 b) % 4294967296)
 else if op = 46 then some (bits .and .u32 a b) else if op = 47 then some (bits .or .u32 a b) else if op = 48 then some (bits .xor .u32 a b)
 else if op = 50 then some (a * 2 ^ min (b.tmod 32).toNat 32 % 4294967296) else if op = 51 then some (wrap32 a / 2 ^ min (b.tmod 32).toNat 32 % 4294967296)
 else if op = 54 then some (floatV (FloatKind.f32.format.add a.toNat b.toNat)) else if op = 55 then some (floatV (FloatKind.f32.format.sub a.toNat b.toNat))
 else if op = 56 then some (floatV (FloatKind.f32.format.mul a.toNat b.toNat)) else if op = 57 then some (floatV (FloatKind.f32.format.div a.toNat b.toNat)) else some 0
def opsL : List Int := [39, 40, 41, 42, 44, 46, 47, 48, 50, 51, 54, 55, 56, 57, 0]
abbrev divE : Ending := .panicked [{ v := .iface 10 (strVal "integer divide by zero"), recovered := false }]
def errB (op : Int) : Int := if op = 0 then 61 else 0
def outB (op : Int) (o : Option Int) : Ending := match o with
 | some r => .returned (.tuple #[.int .u32 r, .int .i64 (errB op)])
 | none => divE
theorem bin177_39 (a b : Int) (hb : 0 ≤ b.tmod 32) (w : World) : Calls Tryz.prog 177 #[.int .u8 39, .int .u32 a, .int .u32 b] w fun e w' => e = outB 39 (binV 39 a b) ∧ Below w.heap.size w w' := by
 go_enter Tryz.func177, Tryz.ntmps177
 go_wp2_with fail
 go_ret2
 exact ⟨rfl, Below.refl _ _⟩
theorem bin177_40 (a b : Int) (hb : 0 ≤ b.tmod 32) (w : World) : Calls Tryz.prog 177 #[.int .u8 40, .int .u32 a, .int .u32 b] w fun e w' => e = outB 40 (binV 40 a b) ∧ Below w.heap.size w w' := by
 go_enter Tryz.func177, Tryz.ntmps177
 go_wp2_with fail
 go_ret2
 exact ⟨rfl, Below.refl _ _⟩
theorem bin177_41 (a b : Int) (hb : 0 ≤ b.tmod 32) (w : World) : Calls Tryz.prog 177 #[.int .u8 41, .int .u32 a, .int .u32 b] w fun e w' => e = outB 41 (binV 41 a b) ∧ Below w.heap.size w w' := by
 go_enter Tryz.func177, Tryz.ntmps177
 go_wp2_with fail
 go_ret2
 exact ⟨rfl, Below.refl _ _⟩
theorem bin177_46 (a b : Int) (hb : 0 ≤ b.tmod 32) (w : World) : Calls Tryz.prog 177 #[.int .u8 46, .int .u32 a, .int .u32 b] w fun e w' => e = outB 46 (binV 46 a b) ∧ Below w.heap.size w w' := by
 go_enter Tryz.func177, Tryz.ntmps177
 go_wp2_with fail
 go_ret2
 exact ⟨rfl, Below.refl _ _⟩
theorem bin177_47 (a b : Int) (hb : 0 ≤ b.tmod 32) (w : World) : Calls Tryz.prog 177 #[.int .u8 47, .int .u32 a, .int .u32 b] w fun e w' => e = outB 47 (binV 47 a b) ∧ Below w.heap.size w w' := by
 go_enter Tryz.func177, Tryz.ntmps177
 go_wp2_with fail
 go_ret2
 exact ⟨rfl, Below.refl _ _⟩
theorem bin177_48 (a b : Int) (hb : 0 ≤ b.tmod 32) (w : World) : Calls Tryz.prog 177 #[.int .u8 48, .int .u32 a, .int .u32 b] w fun e w' => e = outB 48 (binV 48 a b) ∧ Below w.heap.size w w' := by
 go_enter Tryz.func177, Tryz.ntmps177
 go_wp2_with fail
 go_ret2
 exact ⟨rfl, Below.refl _ _⟩
theorem bin177_50 (a b : Int) (hb : 0 ≤ b.tmod 32) (w : World) : Calls Tryz.prog 177 #[.int .u8 50, .int .u32 a, .int .u32 b] w fun e w' => e = outB 50 (binV 50 a b) ∧ Below w.heap.size w w' := by
 go_enter Tryz.func177, Tryz.ntmps177
 go_wp2_with fail
 go_ret2
 exact ⟨rfl, Below.refl _ _⟩
theorem bin177_51 (a b : Int) (hb : 0 ≤ b.tmod 32) (w : World) : Calls Tryz.prog 177 #[.int .u8 51, .int .u32 a, .int .u32 b] w fun e w' => e = outB 51 (binV 51 a b) ∧ Below w.heap.size w w' := by
 go_enter Tryz.func177, Tryz.ntmps177
 go_wp2_with fail
 go_ret2
 exact ⟨rfl, Below.refl _ _⟩
theorem bin177_0 (a b : Int) (hb : 0 ≤ b.tmod 32) (w : World) : Calls Tryz.prog 177 #[.int .u8 0, .int .u32 a, .int .u32 b] w fun e w' => e = outB 0 (binV 0 a b) ∧ Below w.heap.size w w' := by
 go_enter Tryz.func177, Tryz.ntmps177
 go_wp2_with fail
 go_ret2
 exact ⟨rfl, Below.refl _ _⟩
theorem bin177_42 (a b : Int) (hb : 0 ≤ b.tmod 32) (w : World) : Calls Tryz.prog 177 #[.int .u8 42, .int .u32 a, .int .u32 b] w fun e w' => e = outB 42 (binV 42 a b) ∧ Below w.heap.size w w' := by
 by_cases h0 : wrap32 b = 0
 ·have hh := hid (show binV 42 a b = none by simp [binV, h0])
  go_enter Tryz.func177, Tryz.ntmps177
  go_wp2_with fail
  refine bp_panic ?_
  rw [hh.out]
  exact ⟨rfl, Below.refl _ _⟩
 ·have hh := hid (show binV 42 a b = some (wrap32 ((wrap32 a).tdiv (wrap32 b)) % 4294967296) by simp [binV, h0])
  go_enter Tryz.func177, Tryz.ntmps177
  go_wp2_with fail
  go_ret2
  rw [hh.out]
  exact ⟨rfl, Below.refl _ _⟩
theorem bin177_44 (a b : Int) (hb : 0 ≤ b.tmod 32) (w : World) : Calls Tryz.prog 177 #[.int .u8 44, .int .u32 a, .int .u32 b] w fun e w' => e = outB 44 (binV 44 a b) ∧ Below w.heap.size w w' := by
 by_cases h0 : wrap32 b = 0
 ·have hh := hid (show binV 44 a b = none by simp [binV, h0])
  go_enter Tryz.func177, Tryz.ntmps177
  go_wp2_with fail
  refine bp_panic ?_
  rw [hh.out]
  exact ⟨rfl, Below.refl _ _⟩
 ·have hh := hid (show binV 44 a b = some ((wrap32 a).tmod (wrap32 b) % 4294967296) by simp [binV, h0])
  go_enter Tryz.func177, Tryz.ntmps177
  go_wp2_with fail
  go_ret2
  rw [hh.out]
  exact ⟨rfl, Below.refl _ _⟩
theorem bin177_54 (a b : Int) (hb : 0 ≤ b.tmod 32) (w : World) : Calls Tryz.prog 177 #[.int .u8 54, .int .u32 a, .int .u32 b] w fun e w' => e = outB 54 (binV 54 a b) ∧ Below w.heap.size w w' := by
 have c1 := hid (sum212 a b w)
 go_enter Tryz.func177, Tryz.ntmps177
 go_wp2_with fail
 refine c1.out.mono ?_
 rintro e w2 ⟨rfl, hb2⟩
 have hB := hid hb2
 clear c1 hb2
 go_wp2_with fail
 go_ret2
 exact ⟨rfl, hB.out⟩
theorem bin177_55 (a b : Int) (hb : 0 ≤ b.tmod 32) (w : World) : Calls Tryz.prog 177 #[.int .u8 55, .int .u32 a, .int .u32 b] w fun e w' => e = outB 55 (binV 55 a b) ∧ Below w.heap.size w w' := by
 have c1 := hid (rest213 a b w)
 go_enter Tryz.func177, Tryz.ntmps177
 go_wp2_with fail
 refine c1.out.mono ?_
 rintro e w2 ⟨rfl, hb2⟩
 have hB := hid hb2
 clear c1 hb2
 go_wp2_with fail
 go_ret2
 exact ⟨rfl, hB.out⟩
theorem bin177_56 (a b : Int) (hb : 0 ≤ b.tmod 32) (w : World) : Calls Tryz.prog 177 #[.int .u8 56, .int .u32 a, .int .u32 b] w fun e w' => e = outB 56 (binV 56 a b) ∧ Below w.heap.size w w' := by
 have c1 := hid (product214 a b w)
 go_enter Tryz.func177, Tryz.ntmps177
 go_wp2_with fail
 refine c1.out.mono ?_
 rintro e w2 ⟨rfl, hb2⟩
 have hB := hid hb2
 clear c1 hb2
 go_wp2_with fail
 go_ret2
 exact ⟨rfl, hB.out⟩
theorem bin177_57 (a b : Int) (hb : 0 ≤ b.tmod 32) (w : World) : Calls Tryz.prog 177 #[.int .u8 57, .int .u32 a, .int .u32 b] w fun e w' => e = outB 57 (binV 57 a b) ∧ Below w.heap.size w w' := by
 have c1 := hid (ratio215 a b w)
 go_enter Tryz.func177, Tryz.ntmps177
 go_wp2_with fail
 refine c1.out.mono ?_
 rintro e w2 ⟨rfl, hb2⟩
 have hB := hid hb2
 clear c1 hb2
 go_wp2_with fail
 go_ret2
 exact ⟨rfl, hB.out⟩
theorem bin177 (op a b : Int) (ho : op ∈ opsL) (hb : 0 ≤ b.tmod 32) (w : World) : Calls Tryz.prog 177 #[.int .u8 op, .int .u32 a, .int .u32 b] w fun e w' => e = outB op (binV op a b) ∧ Below w.heap.size w w' := by
 simp only [opsL, List.mem_cons, List.mem_nil_iff, or_false] at ho
 rcases ho with rfl | rfl | rfl | rfl | rfl | rfl | rfl | rfl | rfl | rfl | rfl | rfl | rfl | rfl | rfl
 ·exact bin177_39 a b hb w
 ·exact bin177_40 a b hb w
 ·exact bin177_41 a b hb w
 ·exact bin177_42 a b hb w
 ·exact bin177_44 a b hb w
 ·exact bin177_46 a b hb w
 ·exact bin177_47 a b hb w
 ·exact bin177_48 a b hb w
 ·exact bin177_50 a b hb w
 ·exact bin177_51 a b hb w
 ·exact bin177_54 a b hb w
 ·exact bin177_55 a b hb w
 ·exact bin177_56 a b hb w
 ·exact bin177_57 a b hb w
 ·exact bin177_0 a b hb w
theorem caught176_p (n : Nat) (x y : Int) (u : TypeId) (pv : Value) (w : World) (h0 : w.cell? ⟨n, 0, none⟩ = some (.int .u32 x)) (h1 : w.cell? ⟨n + 1, 0, none⟩ = some (.int .i64 y)) (f0 : w.frozen? ⟨n, 0, none⟩ = false) (f1 : w.frozen? ⟨n + 1, 0, none⟩ = false) :
  CallsD Tryz.prog 176 #[.pointer (some ⟨n, 0, none⟩), .pointer (some ⟨n + 1, 0, none⟩)] (.panicking [{ v := .iface u pv, recovered := false }]) w fun e u' w' =>
   e = .returned (.tuple #[]) ∧ u' = .panicking [{ v := .iface u pv, recovered := true }] ∧ w' = (w.setCell ⟨n, 0, none⟩ (.int .u32 0)).setCell ⟨n + 1, 0, none⟩ (.int .i64 60) := by
 refine callsD_of_wpS Tryz.func176 rfl fun c₀ cs hu => ?_
 have hne : ∀ (w : World), (binOp .neq 20 (.iface u pv) .nilIface).run Tryz.prog w = .ok (.bool true) w := by
  intro w
  kernel_rfl
 apply wpS_seq
 apply wpS_region
 simp [wpOpsS, go_sem, recoverD, hu, Tryz.ntmps176, Exit.thenS, hne]
 refine wpS_of_wp ?_
 go_wp2_with fail
 simp [bodyPostS, results, Tryz.results176, go_sem]
theorem caught176_n (p q : Addr) (w : World) : CallsD Tryz.prog 176 #[.pointer (some p), .pointer (some q)] .returning w fun e u' w' => e = .returned (.tuple #[]) ∧ u' = .returning ∧ w' = w := by
 refine callsD_of_wpS Tryz.func176 rfl fun c₀ cs hu => ?_
 have hne : (binOp .neq 20 .nilIface .nilIface).run Tryz.prog w = .ok (.bool false) w := by kernel_rfl
 apply wpS_seq
 apply wpS_region
 simp [wpOpsS, go_sem, recoverD, hu, Tryz.ntmps176, Exit.thenS, hne]
 refine wpS_of_wp ?_
 go_wp2_with fail
 cases c₀
 simp_all [bodyPostS, results, Tryz.results176, go_sem]
def resB (op : Int) (o : Option Int) : Ending := match o with
 | some r => .returned (.tuple #[.int .u32 r, .int .i64 (errB op)])
 | none => .returned (.tuple #[.int .u32 0, .int .i64 60])
theorem binary145 (op a b : Int) (ho : op ∈ opsL) (hb : 0 ≤ b.tmod 32) (w : World) : Calls Tryz.prog 145 #[.int .u8 op, .int .u32 a, .int .u32 b] w fun e w' => e = resB op (binV op a b) ∧ Below w.heap.size w w' := by
 have hmf : ∀ (fn : Fn) (first cap : Array Value) (w : World), (Instr.makeFunc fn first cap).run Tryz.prog w = .ok (.func fn first cap) w := fun _ _ _ _ => rfl
 have c1 := hid (bin177 op a b ho hb ((w.alloc (.cells #[.int .u32 0] 52)).alloc (.cells #[.int .i64 0] 32)))
 obtain ⟨V, hV⟩ : ∃ x, x = binV op a b := ⟨_, rfl⟩
 rw [← hV] at c1 ⊢
 obtain ⟨er, her⟩ : ∃ x, x = errB op := ⟨_, rfl⟩
 have HE := hid her
 clear hV ho hb her
 have b1 := hid ((Bx.new w #[.int .u32 0] 52).al (.cells #[.int .i64 0] 32))
 have b2 : Hid (Bx ((w.alloc (.cells #[.int .u32 0] 52)).alloc (.cells #[.int .i64 0] 32)) (w.heap.size + 1) #[.int .i64 0] 32) := hid (by simpa using Bx.new (w.alloc (.cells #[.int .u32 0] 52)) #[.int .i64 0] 32)
 have hB := hid (show Below w.heap.size w ((w.alloc (.cells #[.int .u32 0] 52)).alloc (.cells #[.int .i64 0] 32)) by (repeat (first | exact Below.refl _ _ | refine Below.drew ?_ | refine Below.alloc ?_ (by simp <;> omega) _)))
 go_enter_defers Tryz.func145, Tryz.ntmps145
 go_wp2_with fail
 refine c1.out.mono ?_
 rintro e w2 ⟨he, hb2⟩
 have B1 := hid (b1.out.on (grown_of_below hb2) (by simp))
 have B2 := hid (b2.out.on (grown_of_below hb2) (by simp))
 have hB2 := hid (hB.out.trans (hb2.mono hB.out.size))
 have z0 := B1.out.cell 0
 have z1 := B2.out.cell 0
 have f0 := B1.out.free 0
 have f1 := B2.out.free 0
 simp at z0 z1
 clear c1 hb2 b1 b2 hB
 cases V with
 | some r =>
  have hres := hid (show resB op (some r) = .returned (.tuple #[.int .u32 r, .int .i64 er]) by rw [HE.out]; rfl)
  unfold outB at he
  rw [← HE.out] at he
  simp only [] at he
  subst he
  have S1 := hid ((B1.out.set 0 (.int .u32 r)).on (grown_setCell _ ⟨w.heap.size + 1, 0, none⟩ (.int .i64 er)) (by simp))
  have S2 := hid ((B2.out.on (grown_setCell w2 ⟨w.heap.size, 0, none⟩ (.int .u32 r)) (by simp)).set 0 (.int .i64 er))
  have hB3 := hid ((hB2.out.setCell (p := ⟨w.heap.size, 0, none⟩) (Nat.le_refl _) (.int .u32 r)).setCell (p := ⟨w.heap.size + 1, 0, none⟩) (by simp) (.int .i64 er))
  go_wp2_with fail
  refine leaves_cons (f := 176) (args := #[.pointer (some ⟨w.heap.size, 0, none⟩), .pointer (some ⟨w.heap.size + 1, 0, none⟩)]) (by simp) (by simp [go_sem]) ?_
  refine (caught176_n ⟨w.heap.size, 0, none⟩ ⟨w.heap.size + 1, 0, none⟩ _).mono ?_
  rintro e u' w'' ⟨rfl, rfl, rfl⟩
  have q0 := S1.out.cell 0
  have q1 := S2.out.cell 0
  simp at q0 q1
  have hr := hres.out
  simp [Leaves, settle, results, Tryz.results145, go_sem, q0, q1, hr]
  exact hB3.out
 | none =>
  have hres := hid (show resB op none = .returned (.tuple #[.int .u32 0, .int .i64 60]) from rfl)
  unfold outB at he
  simp only [] at he
  subst he
  have S1 := hid ((B1.out.set 0 (.int .u32 0)).on (grown_setCell _ ⟨w.heap.size + 1, 0, none⟩ (.int .i64 60)) (by simp))
  have S2 := hid ((B2.out.on (grown_setCell w2 ⟨w.heap.size, 0, none⟩ (.int .u32 0)) (by simp)).set 0 (.int .i64 60))
  have hB3 := hid ((hB2.out.setCell (p := ⟨w.heap.size, 0, none⟩) (Nat.le_refl _) (.int .u32 0)).setCell (p := ⟨w.heap.size + 1, 0, none⟩) (by simp) (.int .i64 60))
  go_wp2_with fail
  refine leaves_cons (f := 176) (args := #[.pointer (some ⟨w.heap.size, 0, none⟩), .pointer (some ⟨w.heap.size + 1, 0, none⟩)]) (by simp) (by simp [go_sem]) ?_
  refine (caught176_p w.heap.size 0 0 _ _ _ z0 z1 f0 f1).mono ?_
  rintro e u' w'' ⟨rfl, rfl, rfl⟩
  have q0 := S1.out.cell 0
  have q1 := S2.out.cell 0
  simp at q0 q1
  have hr := hres.out
  simp [Leaves, settle, results, Tryz.results145, go_sem, q0, q1, hr]
  exact hB3.out
end
section
def floatH (op s : Int) : Option Bool :=
 if op = 23 then some (s == 3) else if op = 24 then some (s != 3) else if op = 25 then some (s == 2) else if op = 26 then some (s == 2 || s == 3) else if op = 27 then some (s == 4) else if op = 28 then some (s == 4 || s == 3) else none
def outH (o : Option Bool) : Ending := match o with
 | some r => .returned (.tuple #[.bool r, .int .i64 0])
 | none => .returned (.tuple #[.bool false, .int .i64 61])
theorem float174 (op s : Int) (w : World) : Calls Tryz.prog 174 #[.int .u8 op, .int .u8 s] w fun e w' => e = outH (floatH op s) ∧ w' = w := by
 by_cases h23 : op = 23
 ·subst op
  go_enter Tryz.func174, Tryz.ntmps174
  go_wp2
  go_ret2
  exact ⟨rfl, rfl⟩
 by_cases h24 : op = 24
 ·subst op
  go_enter Tryz.func174, Tryz.ntmps174
  go_wp2
  go_ret2
  exact ⟨rfl, rfl⟩
 by_cases h25 : op = 25
 ·subst op
  go_enter Tryz.func174, Tryz.ntmps174
  go_wp2
  go_ret2
  exact ⟨rfl, rfl⟩
 by_cases h27 : op = 27
 ·subst op
  go_enter Tryz.func174, Tryz.ntmps174
  go_wp2
  go_ret2
  exact ⟨rfl, rfl⟩
 by_cases h26 : op = 26
 ·subst op
  by_cases hs : s = 2
  ·subst s
   go_enter Tryz.func174, Tryz.ntmps174
   go_wp2
   go_ret2
   exact ⟨rfl, rfl⟩
  ·have hs2 : (s == 2) = false := by simpa using hs
   have hh := hid (show floatH 26 s = some (s == 3) by simp [floatH, hs2])
   go_enter Tryz.func174, Tryz.ntmps174
   go_wp2
   go_ret2
   rw [hh.out]
   exact ⟨rfl, rfl⟩
 by_cases h28 : op = 28
 ·subst op
  by_cases hs : s = 4
  ·subst s
   go_enter Tryz.func174, Tryz.ntmps174
   go_wp2
   go_ret2
   exact ⟨rfl, rfl⟩
  ·have hs2 : (s == 4) = false := by simpa using hs
   have hh := hid (show floatH 28 s = some (s == 3) by simp [floatH, hs2])
   go_enter Tryz.func174, Tryz.ntmps174
   go_wp2
   go_ret2
   rw [hh.out]
   exact ⟨rfl, rfl⟩
 have hh := hid (show floatH op s = none by simp [floatH, h23, h24, h25, h26, h27, h28])
 go_enter Tryz.func174, Tryz.ntmps174
 go_wp2
 go_ret2
 rw [hh.out]
 exact ⟨rfl, rfl⟩
def holdsV (op a b : Int) : Option Bool :=
 if op = 13 then some (a == b) else if op = 14 then some (a != b) else if op = 15 then some (decide (wrap32 a < wrap32 b)) else if op = 16 then some (decide (wrap32 a ≤ wrap32 b)) else if op = 17 then some (decide (wrap32 a > wrap32 b)) else if op = 18 then some (decide (wrap32 a ≥ wrap32 b))
 else if op = 19 then some (decide (a < b)) else if op = 20 then some (decide (a ≤ b)) else if op = 21 then some (decide (a > b)) else if op = 22 then some (decide (a ≥ b)) else floatH op (standV a b)
theorem holds144 (op a b : Int) (w : World) : Calls Tryz.prog 144 #[.int .u8 op, .int .u32 a, .int .u32 b] w fun e w' => e = outH (holdsV op a b) ∧ w' = w := by
 by_cases h13 : op = 13
 ·subst op
  go_enter Tryz.func144, Tryz.ntmps144
  go_wp2
  go_ret2
  exact ⟨rfl, rfl⟩
 by_cases h14 : op = 14
 ·subst op
  go_enter Tryz.func144, Tryz.ntmps144
  go_wp2
  go_ret2
  exact ⟨rfl, rfl⟩
 by_cases h15 : op = 15
 ·subst op
  go_enter Tryz.func144, Tryz.ntmps144
  go_wp2
  go_ret2
  exact ⟨rfl, rfl⟩
 by_cases h16 : op = 16
 ·subst op
  go_enter Tryz.func144, Tryz.ntmps144
  go_wp2
  go_ret2
  exact ⟨rfl, rfl⟩
 by_cases h17 : op = 17
 ·subst op
  go_enter Tryz.func144, Tryz.ntmps144
  go_wp2
  go_ret2
  exact ⟨rfl, rfl⟩
 by_cases h18 : op = 18
 ·subst op
  go_enter Tryz.func144, Tryz.ntmps144
  go_wp2
  go_ret2
  exact ⟨rfl, rfl⟩
 by_cases h19 : op = 19
 ·subst op
  go_enter Tryz.func144, Tryz.ntmps144
  go_wp2
  go_ret2
  exact ⟨rfl, rfl⟩
 by_cases h20 : op = 20
 ·subst op
  go_enter Tryz.func144, Tryz.ntmps144
  go_wp2
  go_ret2
  exact ⟨rfl, rfl⟩
 by_cases h21 : op = 21
 ·subst op
  go_enter Tryz.func144, Tryz.ntmps144
  go_wp2
  go_ret2
  exact ⟨rfl, rfl⟩
 by_cases h22 : op = 22
 ·subst op
  go_enter Tryz.func144, Tryz.ntmps144
  go_wp2
  go_ret2
  exact ⟨rfl, rfl⟩
 have hh := hid (show holdsV op a b = floatH op (standV a b) by simp [holdsV, h13, h14, h15, h16, h17, h18, h19, h20, h21, h22])
 have c1 := hid (stand175 a b w)
 have c2 := hid (float174 op (standV a b) w)
 obtain ⟨H, hH⟩ : ∃ x, x = floatH op (standV a b) := ⟨_, rfl⟩
 rw [← hH] at c2 hh
 clear hH
 go_enter Tryz.func144, Tryz.ntmps144
 go_wp2_with fail
 refine c1.out.mono ?_
 rintro e w2 ⟨rfl, hw⟩
 subst w2
 clear c1
 go_wp2_with fail
 refine c2.out.mono ?_
 rintro e w2 ⟨he, hw⟩
 subst w2
 clear c2
 cases H with
 | none =>
  obtain rfl : e = .returned (.tuple #[.bool false, .int .i64 61]) := he
  go_wp2_with fail
  go_ret2
  rw [hh.out]
  exact ⟨rfl, rfl⟩
 | some r =>
  obtain rfl : e = .returned (.tuple #[.bool r, .int .i64 0]) := he
  go_wp2_with fail
  go_ret2
  rw [hh.out]
  exact ⟨rfl, rfl⟩
end
section
open Ieee
theorem cut_zero (neg : Bool) (n drop : Nat) : Toward.zero.cut neg n drop = n / 2 ^ min drop (n.log2 + 2) := by
 unfold Toward.cut
 simp [Nat.shiftLeft_eq]
theorem cut_le (neg : Bool) (n drop : Nat) (B : Nat) (h : n < B * 2 ^ drop) : Toward.zero.cut neg n drop < B := by
 rw [cut_zero]
 by_cases hd : drop ≤ n.log2 + 2
 ·rw [Nat.min_eq_left hd]
  exact Nat.div_lt_of_lt_mul (by rw [Nat.mul_comm]; exact h)
 ·rw [Nat.min_eq_right (by omega)]
  have hB : 0 < B := by
   rcases Nat.eq_zero_or_pos B with e | e
   ·subst e; simp at h
   ·exact e
  have h2 : n < 2 ^ (n.log2 + 2) := Nat.lt_of_lt_of_le Nat.lt_log2_self (Nat.pow_le_pow_right (by omega) (by omega))
  rw [Nat.div_eq_of_lt h2]
  exact hB
theorem toInt_number (s : Bool) (m : Nat) (i : Int) : (Datum.number s m i).toInt .zero = some (if s then -(Toward.zero.cut s (m * 2 ^ i.toNat) (-i).toNat : Int) else (Toward.zero.cut s (m * 2 ^ i.toNat) (-i).toNat : Int)) := by
 unfold Datum.toInt Datum.integral
 simp only [signed, Nat.shiftLeft_eq, Nat.pow_zero, Nat.mul_one]
theorem shift_lt (m : Nat) (i : Int) (h : m * 2 ^ (i - min i 8).toNat < 8388608 * 2 ^ (8 - min i 8).toNat) : m * 2 ^ i.toNat < 2147483648 * 2 ^ (-i).toNat := by
 by_cases h8 : 8 ≤ i
 ·obtain ⟨k, hk⟩ : ∃ k, k = (i - 8).toNat := ⟨_, rfl⟩
  rw [show min i 8 = 8 by omega, ← hk, show ((8 : Int) - 8).toNat = 0 by omega, Nat.pow_zero, Nat.mul_one] at h
  rw [show i.toNat = k + 8 by omega, show (-i).toNat = 0 by omega, Nat.pow_add, ← Nat.mul_assoc, Nat.pow_zero, Nat.mul_one]
  generalize m * 2 ^ k = q at h ⊢
  omega
 ·rw [show min i 8 = i by omega, show (i - i).toNat = 0 by omega, Nat.pow_zero, Nat.mul_one] at h
  by_cases h0 : 0 ≤ i
  ·obtain ⟨k, hk⟩ : ∃ k, k = i.toNat := ⟨_, rfl⟩
   rw [← hk, show (-i).toNat = 0 by omega, Nat.pow_zero, Nat.mul_one]
   rw [show (8 - i).toNat = 8 - k by omega] at h
   have e : 8388608 * 2 ^ (8 - k) * 2 ^ k = 2147483648 := by
    rw [Nat.mul_assoc, ← Nat.pow_add, show 8 - k + k = 8 by omega]
   rw [← e]
   first | exact Nat.mul_lt_mul_of_pos_right h (Nat.two_pow_pos _) | exact Nat.mul_le_mul_right _ h
  ·obtain ⟨k, hk⟩ : ∃ k, k = (-i).toNat := ⟨_, rfl⟩
   rw [← hk, show i.toNat = 0 by omega, Nat.pow_zero, Nat.mul_one]
   rw [show (8 - i).toNat = 8 + k by omega, Nat.pow_add] at h
   omega
theorem shift_le (m : Nat) (i : Int) (h : m * 2 ^ (i - min i 8).toNat ≤ 8388608 * 2 ^ (8 - min i 8).toNat) : m * 2 ^ i.toNat ≤ 2147483648 * 2 ^ (-i).toNat := by
 by_cases h8 : 8 ≤ i
 ·obtain ⟨k, hk⟩ : ∃ k, k = (i - 8).toNat := ⟨_, rfl⟩
  rw [show min i 8 = 8 by omega, ← hk, show ((8 : Int) - 8).toNat = 0 by omega, Nat.pow_zero, Nat.mul_one] at h
  rw [show i.toNat = k + 8 by omega, show (-i).toNat = 0 by omega, Nat.pow_add, ← Nat.mul_assoc, Nat.pow_zero, Nat.mul_one]
  generalize m * 2 ^ k = q at h ⊢
  omega
 ·rw [show min i 8 = i by omega, show (i - i).toNat = 0 by omega, Nat.pow_zero, Nat.mul_one] at h
  by_cases h0 : 0 ≤ i
  ·obtain ⟨k, hk⟩ : ∃ k, k = i.toNat := ⟨_, rfl⟩
   rw [← hk, show (-i).toNat = 0 by omega, Nat.pow_zero, Nat.mul_one]
   rw [show (8 - i).toNat = 8 - k by omega] at h
   have e : 8388608 * 2 ^ (8 - k) * 2 ^ k = 2147483648 := by
    rw [Nat.mul_assoc, ← Nat.pow_add, show 8 - k + k = 8 by omega]
   rw [← e]
   first | exact Nat.mul_lt_mul_of_pos_right h (Nat.two_pow_pos _) | exact Nat.mul_le_mul_right _ h
  ·obtain ⟨k, hk⟩ : ∃ k, k = (-i).toNat := ⟨_, rfl⟩
   rw [← hk, show i.toNat = 0 by omega, Nat.pow_zero, Nat.mul_one]
   rw [show (8 - i).toNat = 8 + k by omega, Nat.pow_add] at h
   omega
theorem read_hi : Ieee.single.read 1325400064 = .number false 8388608 8 := by decide
theorem read_lo : Ieee.single.read 3472883712 = .number true 8388608 8 := by decide
theorem toward_some (x : Nat) (h0 : (FloatKind.f32.format.order x x != some .eq) = false) (h1 : (FloatKind.f32.format.order x 1325400064 == some .gt || FloatKind.f32.format.order x 1325400064 == some .eq) = false)
  (h2 : (FloatKind.f32.format.order x 3472883712 == some .lt) = false) : ∃ n, floatToIntVal .f32 x .i32 = some n := by
 have e1 : FloatKind.f32.format.order x 1325400064 = (Ieee.single.read x).order (.number false 8388608 8) := by rw [← read_hi]; rfl
 have e2 : FloatKind.f32.format.order x 3472883712 = (Ieee.single.read x).order (.number true 8388608 8) := by rw [← read_lo]; rfl
 have e0 : FloatKind.f32.format.order x x = (Ieee.single.read x).order (Ieee.single.read x) := rfl
 rw [e1] at h1
 rw [e2] at h2
 rw [e0] at h0
 unfold floatToIntVal FloatKind.decode
 show ∃ n, (match (Ieee.single.read x).toInt .zero with | some n => if IntKind.i32.min ≤ n ∧ n ≤ IntKind.i32.max then some n else none | none => none) = some n
 cases hd : Ieee.single.read x with
 | nan s f => rw [hd] at h0; simp [Datum.order] at h0
 | infinity s =>
  rw [hd] at h1 h2
  cases s <;> simp [Datum.order] at h1 h2
 | number s m i =>
  rw [hd] at h1 h2
  rw [toInt_number]
  simp only []
  have hmin : IntKind.i32.min = -2147483648 := rfl
  have hmax : IntKind.i32.max = 2147483647 := rfl
  rw [hmin, hmax]
  simp only [Datum.order, signed, Nat.shiftLeft_eq] at h1 h2
  cases s with
  | false =>
   have hlt : m * 2 ^ (i - min i 8).toNat < 8388608 * 2 ^ (8 - min i 8).toNat := by
    simp only [Bool.false_eq_true, if_false, Bool.or_eq_false_iff] at h1
    rcases Nat.lt_trichotomy (m * 2 ^ (i - min i 8).toNat) (8388608 * 2 ^ (8 - min i 8).toNat) with q | q | q
    ·exact q
    ·exfalso
     have : compare ((m * 2 ^ (i - min i 8).toNat : Nat) : Int) ((8388608 * 2 ^ (8 - min i 8).toNat : Nat) : Int) = .eq := by rw [q]; exact Int.compare_eq_eq.2 rfl
     rw [this] at h1
     simp at h1
    ·exfalso
     have : compare ((m * 2 ^ (i - min i 8).toNat : Nat) : Int) ((8388608 * 2 ^ (8 - min i 8).toNat : Nat) : Int) = .gt := Int.compare_eq_gt.2 (by omega)
     rw [this] at h1
     simp at h1
   have hc := cut_le false _ (-i).toNat _ (shift_lt m i hlt)
   exact ⟨_, if_pos (by simp only [Bool.false_eq_true, if_false]; omega)⟩
  | true =>
   have hle : m * 2 ^ (i - min i 8).toNat ≤ 8388608 * 2 ^ (8 - min i 8).toNat := by
    simp only [if_true] at h2
    rcases Nat.lt_or_ge (8388608 * 2 ^ (8 - min i 8).toNat) (m * 2 ^ (i - min i 8).toNat) with q | q
    ·exfalso
     have : compare (-((m * 2 ^ (i - min i 8).toNat : Nat) : Int)) (-((8388608 * 2 ^ (8 - min i 8).toNat : Nat) : Int)) = .lt := Int.compare_eq_lt.2 (by omega)
     rw [this] at h2
     simp at h2
    ·exact q
   have hc := cut_le true (m * 2 ^ i.toNat) (-i).toNat 2147483649 (Nat.lt_of_le_of_lt (shift_le m i hle) (Nat.mul_lt_mul_of_pos_right (by omega) (Nat.two_pow_pos _)))
   exact ⟨_, if_pos (by simp only [if_true]; omega)⟩
end
section
def turnV (a : Int) : Int := bits .xor .u32 a 2147483648
theorem turned120 (a : Int) (w : World) : Calls Tryz.prog 120 #[.int .u32 a] w fun e w' => e = .returned (.int .u32 (turnV a)) ∧ w' = w := by
 go_enter Tryz.func120, Tryz.ntmps120
 go_wp2
 go_ret
 exact ⟨rfl, rfl⟩
theorem of121 (a : Int) (w : World) : Calls Tryz.prog 121 #[.int .i32 a] w fun e w' => e = .returned (.int .u32 (wordN (floatOfInt .f32 a))) ∧ w' = w := by
 have hc := fun w => run_convert_int_float (P := Tryz.prog) w 21 248 .i32 .f32 a (by kernel_rfl) Tryz.underlying248
 have c1 := hid (word147 (floatOfInt .f32 a) w)
 go_enter Tryz.func121, Tryz.ntmps121
 go_wp2_with fail
 refine c1.out.mono ?_
 rintro e w2 ⟨rfl, hw⟩
 subst w2
 clear c1
 go_wp2_with fail
 go_ret
 exact ⟨rfl, rfl⟩
def towardV (a : Int) : Int :=
 if (FloatKind.f32.format.order a.toNat a.toNat != some .eq) = true then 0
 else if (FloatKind.f32.format.order a.toNat 1325400064 == some .gt || FloatKind.f32.format.order a.toNat 1325400064 == some .eq) = true then 2147483647
 else if (FloatKind.f32.format.order a.toNat 3472883712 == some .lt) = true then -2147483648
 else (floatToIntVal .f32 a.toNat .i32).getD 0
theorem toward122 (a : Int) (w : World) : Calls Tryz.prog 122 #[.int .u32 a] w fun e w' => e = .returned (.int .i32 (towardV a)) ∧ w' = w := by
 have c1 := hid (number148 a w)
 obtain ⟨T, hT⟩ : ∃ x, x = towardV a := ⟨_, rfl⟩
 rw [← hT]
 unfold towardV at hT
 have hsome := toward_some a.toNat
 have hcv := fun w n h => run_convert_float_int (P := Tryz.prog) w 248 21 .f32 .i32 a.toNat n (by kernel_rfl) Tryz.underlying21 h
 cases h0 : (FloatKind.f32.format.order a.toNat a.toNat != some .eq)
 case true =>
  rw [h0, if_pos rfl] at hT
  have hh := hid hT
  clear hT hsome hcv
  go_enter Tryz.func122, Tryz.ntmps122
  go_wp2_with fail
  refine c1.out.mono ?_
  rintro e w2 ⟨rfl, hw⟩
  subst w2
  clear c1
  go_wp2_with fail
  go_ret
  rw [hh.out]
  exact ⟨rfl, rfl⟩
 case false =>
  rw [h0, if_neg (by simp)] at hT
  cases h1 : (FloatKind.f32.format.order a.toNat 1325400064 == some .gt || FloatKind.f32.format.order a.toNat 1325400064 == some .eq)
  case true =>
   rw [h1, if_pos rfl] at hT
   have hh := hid hT
   clear hT hsome hcv
   go_enter Tryz.func122, Tryz.ntmps122
   go_wp2_with fail
   refine c1.out.mono ?_
   rintro e w2 ⟨rfl, hw⟩
   subst w2
   clear c1
   go_wp2_with fail
   go_ret
   rw [hh.out]
   exact ⟨rfl, rfl⟩
  case false =>
   rw [h1, if_neg (by simp)] at hT
   cases h2 : (FloatKind.f32.format.order a.toNat 3472883712 == some .lt)
   case true =>
    rw [h2, if_pos rfl] at hT
    have hh := hid hT
    clear hT hsome hcv
    go_enter Tryz.func122, Tryz.ntmps122
    go_wp2_with fail
    refine c1.out.mono ?_
    rintro e w2 ⟨rfl, hw⟩
    subst w2
    clear c1
    go_wp2_with fail
    go_ret
    rw [hh.out]
    exact ⟨rfl, rfl⟩
   case false =>
    rw [h2, if_neg (by simp)] at hT
    obtain ⟨n, hn⟩ := hsome h0 h1 h2
    have hc := fun w => hcv w n hn
    rw [hn] at hT
    have hh := hid hT
    clear hT hsome hcv hn
    go_enter Tryz.func122, Tryz.ntmps122
    go_wp2_with fail
    refine c1.out.mono ?_
    rintro e w2 ⟨rfl, hw⟩
    subst w2
    clear c1
    go_wp2_with fail
    go_ret
    rw [hh.out]
    exact ⟨rfl, rfl⟩
def unaryV (op a : Int) : Int :=
 if op = 49 then bits .xor .u32 IntKind.u32.max a
 else if op = 53 then turnV a
 else if op = 58 then wordN (floatOfInt .f32 (wrap32 a))
 else if op = 59 then IntKind.u32.wrap (towardV a)
 else IntKind.u32.wrap (-a)
theorem unary86_38 (a : Int) (w : World) : Calls Tryz.prog 86 #[.int .u8 38, .int .u32 a] w fun e w' => e = .returned (.tuple #[.int .u32 (unaryV 38 a), .int .i64 0]) ∧ w' = w := by
 go_enter Tryz.func86, Tryz.ntmps86
 go_wp2_with fail
 go_ret2
 exact ⟨rfl, rfl⟩
theorem unary86_49 (a : Int) (w : World) : Calls Tryz.prog 86 #[.int .u8 49, .int .u32 a] w fun e w' => e = .returned (.tuple #[.int .u32 (unaryV 49 a), .int .i64 0]) ∧ w' = w := by
 go_enter Tryz.func86, Tryz.ntmps86
 go_wp2_with fail
 go_ret2
 exact ⟨rfl, rfl⟩
theorem unary86_53 (a : Int) (w : World) : Calls Tryz.prog 86 #[.int .u8 53, .int .u32 a] w fun e w' => e = .returned (.tuple #[.int .u32 (unaryV 53 a), .int .i64 0]) ∧ w' = w := by
 have c1 := hid (turned120 a w)
 go_enter Tryz.func86, Tryz.ntmps86
 go_wp2_with fail
 refine c1.out.mono ?_
 rintro e w2 ⟨rfl, hw⟩
 subst w2
 clear c1
 go_wp2_with fail
 go_ret2
 exact ⟨rfl, rfl⟩
theorem unary86_58 (a : Int) (w : World) : Calls Tryz.prog 86 #[.int .u8 58, .int .u32 a] w fun e w' => e = .returned (.tuple #[.int .u32 (unaryV 58 a), .int .i64 0]) ∧ w' = w := by
 have c1 := hid (of121 (wrap32 a) w)
 go_enter Tryz.func86, Tryz.ntmps86
 go_wp2_with fail
 refine c1.out.mono ?_
 rintro e w2 ⟨rfl, hw⟩
 subst w2
 clear c1
 go_wp2_with fail
 go_ret2
 exact ⟨rfl, rfl⟩
theorem unary86_59 (a : Int) (w : World) : Calls Tryz.prog 86 #[.int .u8 59, .int .u32 a] w fun e w' => e = .returned (.tuple #[.int .u32 (unaryV 59 a), .int .i64 0]) ∧ w' = w := by
 have c1 := hid (toward122 a w)
 go_enter Tryz.func86, Tryz.ntmps86
 go_wp2_with fail
 refine c1.out.mono ?_
 rintro e w2 ⟨rfl, hw⟩
 subst w2
 clear c1
 go_wp2_with fail
 go_ret2
 exact ⟨rfl, rfl⟩
end
section
structure Ev where
 number : Int
 args : List Int
 value : Int
structure MS where
 held : List (List Int)
 steps : Nat
 reps : Nat
 evs : List Ev
inductive Out (α : Type) where
 | ok (a : α) (m : MS)
 | stop (kind fault : Int) (m : MS)
 | lost
def Out.bind {α β : Type} : Out α → (α → MS → Out β) → Out β
 | .ok a m, f => f a m
 | .stop k x m, _ => .stop k x m
 | .lost, _ => .lost
structure Alu where
 U : Int → Int → Int
 H : Int → Int → Int → Option Bool
 B : Int → Int → Int → Option Int
abbrev LSc := List (ByteArray × (Int × Int))
abbrev Fr := List LSc
structure Cf where
 vs : VS
 cs : CSg
 pl : List (ByteArray × Int)
 hs : List HH
 fs : List FH
 allowed : Nat
 values : List Int
 alu : Alu
def opT : List (ByteArray × (Int × Int)) :=
  [(⟨#[43]⟩, (39, 54)), (⟨#[45]⟩, (40, 55)), (⟨#[42]⟩, (41, 56)), (⟨#[47]⟩, (42, 57)), (⟨#[37]⟩, (44, 0)), (⟨#[38]⟩, (46, 0)), (⟨#[124]⟩, (47, 0)), (⟨#[94]⟩, (48, 0)), (⟨#[60, 60]⟩, (50, 0)), (⟨#[62, 62]⟩, (51, 0)),
   (⟨#[61, 61]⟩, (13, 23)), (⟨#[33, 61]⟩, (14, 24)), (⟨#[60]⟩, (15, 25)), (⟨#[60, 61]⟩, (16, 26)), (⟨#[62]⟩, (17, 27)), (⟨#[62, 61]⟩, (18, 28))]
def opsOf (sign : ByteArray) : Int × Int := (getM sign opT).getD (0, 0)
def workedV (A : Alu) (sign : ByteArray) (t a b : Int) : Option Int :=
 let op := if t = 2 then (opsOf sign).2 else (opsOf sign).1
 match A.H op a b with
 | some r => some (if r then 1 else 0)
 | none => A.B op a b
def seesF (s : ByteArray) (fr : Fr) : Option (Int × Int) := fr.foldl (fun a sc => match getM s sc with | some t => some t | none => a) none
def setF (s : ByteArray) (v : Int) : Fr → Fr
 | [] => []
 | c :: r => if (seesF s r).isSome then c :: setF s v r else match getM s c with
  | some (t, _) => putM s (t, v) c :: r
  | none => c :: r
def giveF (s : ByteArray) (x : Int × Int) (fr : Fr) : Fr := fr.dropLast ++ [putM s x (fr.getLastD [])]
section
variable (cf : Cf)
def placeOf (s : ByteArray) : Nat := ((getM s cf.pl).getD 0).toNat
def wordsAt (m : MS) (s : ByteArray) : List Int := m.held.getD (placeOf cf s) []
def putW (m : MS) (s : ByteArray) (i : Nat) (v : Int) : MS := { m with held := m.held.set (placeOf cf s) ((wordsAt cf m s).set i v) }
def typeV (s : ByteArray) : Int := ((getM s cf.vs).getD (0, 0)).1
def readV (fr : Fr) (m : MS) (s : ByteArray) : Int × Int :=
 match seesF s fr with
 | some x => x
 | none => (typeV cf s, (wordsAt cf m s).getD 0 0)
def writeV (fr : Fr) (m : MS) (s : ByteArray) (v : Int) : Fr × MS :=
 match seesF s fr with
 | some _ => (setF s v fr, m)
 | none => (fr, putW cf m s 0 v)
def tick (m : MS) : Out Unit := if cf.allowed ≤ m.steps then .stop 3 0 m else .ok () { m with steps := m.steps + 1 }
structure Evl where
 E : Nat → Fr → EH → Exs → MS → Out Int
 L : Nat → Fr → Sts → MS → Out (Int × Int × Fr)
 W : Nat → Fr → EH → Exs → Sts → MS → Out (Int × Int × Fr)
 F : Nat → Sig → List Int → MS → Out Int
variable (ev : Evl)
def evK (d : Nat) (fr : Fr) (l : Exs) (i : Nat) (m : MS) : Out Int :=
 match l.toL[i]? with
 | some a => ev.E d fr a.1 a.2 m
 | none => .lost
def evArgs (d : Nat) (fr : Fr) : Exs → MS → Out (List Int)
 | .nil, m => .ok [] m
 | .cons h k r, m => (ev.E d fr h k m).bind fun v m => (evArgs d fr r m).bind fun l m => .ok (v :: l) m
def typF (fr : Fr) (h : EH) (k : Exs) : Int :=
 match tyX cf.vs cf.cs (fr.map fun sc => sc.map fun x => (x.1, x.2.1)) h k with
 | .ok t => t
 | .error _ => 0
def typK (fr : Fr) (l : Exs) (i : Nat) : Int :=
 match l.toL[i]? with
 | some a => typF cf fr a.1 a.2
 | none => 0
def truth (b : Bool) : Int := if b then 1 else 0
def hostV (g : Sig) (args : List Int) (m : MS) : Out Int :=
 match cf.values[m.reps]? with
 | none => .stop 4 0 m
 | some v => match cf.hs[g.host.toNat]? with
  | none => .lost
  | some h => .ok v { m with reps := m.reps + 1, evs := m.evs ++ [⟨h.number, args, v⟩] }
def exprB (d : Nat) (fr : Fr) (h : EH) (k : Exs) (m : MS) : Out Int :=
 if h.kind = 1 ∨ h.kind = 2 then .ok h.word m
 else if h.kind = 3 then .ok (readV cf fr m h.name).2 m
 else if h.kind = 4 then (evK ev d fr k 0 m).bind fun i m => match (wordsAt cf m h.name)[i.toNat]? with
  | some x => .ok x m
  | none => .stop 2 1 m
 else if h.kind = 5 then (evArgs ev d fr k m).bind fun args m => match getM h.name cf.cs with
  | none => .lost
  | some g => if g.host < 0 then ev.F d g args m else hostV cf g args m
 else if h.kind = 6 then (evK ev d fr k 0 m).bind fun v m =>
  if h.sign.toList == [126] then .ok (cf.alu.U 49 v) m
  else if h.sign.toList == [33] then .ok (truth (v == 0)) m
  else if typK cf fr k 0 = 2 then .ok (cf.alu.U 53 v) m else .ok (cf.alu.U 38 v) m
 else if h.kind = 7 then (evK ev d fr k 0 m).bind fun a m =>
  if h.sign.toList == [38, 38] && a == 0 then .ok 0 m
  else if h.sign.toList == [124, 124] && a != 0 then .ok 1 m
  else (evK ev d fr k 1 m).bind fun b m =>
   if h.sign.toList == [38, 38] || h.sign.toList == [124, 124] then .ok (truth (b != 0)) m
   else match workedV cf.alu h.sign (typK cf fr k 0) a b with
    | some x => .ok x m
    | none => .stop 2 2 m
 else if h.kind = 8 then (evK ev d fr k 0 m).bind fun v m =>
  if typK cf fr k 0 = h.type then .ok v m else if h.type = 1 then .ok (cf.alu.U 59 v) m else .ok (cf.alu.U 58 v) m
 else .lost
def exprV (d : Nat) (fr : Fr) (h : EH) (k : Exs) (m : MS) : Out Int := (tick cf m).bind fun _ m => exprB cf ev d fr h k m
def parSc : List PW → List Int → LSc → LSc
 | p :: r, a :: l, sc => parSc r l (putM p.1 (p.2, a) sc)
 | _, _, sc => sc
def funcV (d : Nat) (g : Sig) (args : List Int) (m : MS) : Out Int :=
 if 16 ≤ d then .stop 5 0 m else match cf.fs[g.fn.toNat]? with
  | none => .lost
  | some f => (ev.L (d + 1) [parSc g.params args []] f.body m).bind fun r m => .ok r.2.1 m
def setV (d : Nat) (fr : Fr) (h : SH) (x : Exs) (m : MS) : Out Fr :=
 (evK ev d fr x 0 m).bind fun v m2 =>
  if h.sign.toList.isEmpty then .ok (writeV cf fr m2 h.name v).1 (writeV cf fr m2 h.name v).2
  else match workedV cf.alu h.sign (readV cf fr m h.name).1 (readV cf fr m h.name).2 v with
   | some r => .ok (writeV cf fr m2 h.name r).1 (writeV cf fr m2 h.name r).2
   | none => .stop 2 2 m2
def putV (d : Nat) (fr : Fr) (h : SH) (x : Exs) (m : MS) : Out Unit :=
 (evK ev d fr x 0 m).bind fun i m => match (wordsAt cf m h.name)[i.toNat]? with
  | none => .stop 2 1 m
  | some old => (evK ev d fr x 1 m).bind fun v m2 =>
   if h.sign.toList.isEmpty then .ok () (putW cf m2 h.name i.toNat v)
   else match workedV cf.alu h.sign (typeV cf h.name) old v with
    | some r => .ok () (putW cf m2 h.name i.toNat r)
    | none => .stop 2 2 m2
def stmtV (d : Nat) (fr : Fr) (h : SH) (x : Exs) (b e : Sts) (m : MS) : Out (Int × Int × Fr) :=
 (tick cf m).bind fun _ m =>
  if h.kind = 1 then (evK ev d fr x 0 m).bind fun v m => .ok (0, 0, giveF h.name (h.type, v) fr) m
  else if h.kind = 2 then (setV cf ev d fr h x m).bind fun fr m => .ok (0, 0, fr) m
  else if h.kind = 3 then (putV cf ev d fr h x m).bind fun _ m => .ok (0, 0, fr) m
  else if h.kind = 4 then (evK ev d fr x 0 m).bind fun c m => if c = 0 then ev.L d fr e m else ev.L d fr b m
  else if h.kind = 5 then match x.toL[0]? with
   | some a => ev.W d fr a.1 a.2 b m
   | none => .lost
  else if h.kind = 6 then .ok (1, 0, fr) m
  else if h.kind = 7 then .ok (2, 0, fr) m
  else if h.kind = 8 then (evK ev d fr x 0 m).bind fun v m => .ok (3, v, fr) m
  else if h.kind = 9 then (evK ev d fr x 0 m).bind fun _ m => .ok (0, 0, fr) m
  else .ok (0, 0, fr) m
def stmtsV (d : Nat) : Sts → Fr → MS → Out (Int × Int × Fr)
 | .nil, fr, m => .ok (0, 0, fr) m
 | .cons h x b e r, fr, m => (stmtV cf ev d fr h x b e m).bind fun q m => if q.1 = 0 then stmtsV d r q.2.2 m else .ok q m
def listV (d : Nat) (fr : Fr) (l : Sts) (m : MS) : Out (Int × Int × Fr) := (stmtsV cf ev d l (fr ++ [[]]) m).bind fun q m => .ok (q.1, q.2.1, q.2.2.dropLast) m
def whileV (d : Nat) (fr : Fr) (h : EH) (k : Exs) (b : Sts) (m : MS) : Out (Int × Int × Fr) :=
 (ev.E d fr h k m).bind fun c m => if c = 0 then .ok (0, 0, fr) m else (ev.L d fr b m).bind fun q m =>
  if q.1 = 3 then .ok (3, q.2.1, q.2.2) m else if q.1 = 1 then .ok (0, 0, q.2.2) m else (tick cf m).bind fun _ m => ev.W d q.2.2 h k b m
end
def evl (cf : Cf) : Nat → Evl
 | 0 => ⟨fun _ _ _ _ _ => .lost, fun _ _ _ _ => .lost, fun _ _ _ _ _ _ => .lost, fun _ _ _ _ => .lost⟩
 | n + 1 => ⟨exprV cf (evl cf n), listV cf (evl cf n), whileV cf (evl cf n), funcV cf (evl cf n)⟩
/-! ### a state goes on -/
def MS.le (a b : MS) : Prop := a.steps ≤ b.steps ∧ ∃ l, b.evs = a.evs ++ l ∧ b.reps = a.reps + l.length
theorem MS.le_refl (a : MS) : MS.le a a := ⟨Nat.le_refl _, [], by simp, rfl⟩
theorem MS.le_trans {a b c : MS} (h : MS.le a b) (k : MS.le b c) : MS.le a c := by
 obtain ⟨h1, l, h2, h3⟩ := h
 obtain ⟨k1, l', k2, k3⟩ := k
 exact ⟨Nat.le_trans h1 k1, l ++ l', by rw [k2, h2, List.append_assoc], by rw [k3, h3, List.length_append]; omega⟩
def Out.from {α : Type} (m : MS) : Out α → Prop
 | .ok _ m' => MS.le m m'
 | .stop _ _ m' => MS.le m m'
 | .lost => True
theorem Out.from_bind {α β : Type} {m : MS} {o : Out α} {f : α → MS → Out β} (h : o.from m) (hf : ∀ a m', MS.le m m' → (f a m').from m') : (o.bind f).from m := by
 cases o with
 | ok a m' =>
  have h1 : MS.le m m' := h
  have h2 := hf a m' h1
  show (f a m').from m
  cases hq : f a m' with
  | ok b m2 => rw [hq] at h2; exact MS.le_trans h1 h2
  | stop k x m2 => rw [hq] at h2; exact MS.le_trans h1 h2
  | lost => trivial
 | stop k x m' => exact h
 | lost => trivial
theorem tick_from (cf : Cf) (m : MS) : (tick cf m).from m := by
 unfold tick
 split
 ·exact MS.le_refl _
 ·exact ⟨Nat.le_succ _, [], by simp, rfl⟩
theorem putW_le {cf : Cf} (m : MS) (s : ByteArray) (i : Nat) (v : Int) : MS.le m (putW cf m s i v) := ⟨Nat.le_refl _, [], by simp [putW], rfl⟩
theorem writeV_le {cf : Cf} (fr : Fr) (m : MS) (s : ByteArray) (v : Int) : MS.le m (writeV cf fr m s v).2 := by
 unfold writeV
 split
 ·exact MS.le_refl _
 ·exact ⟨Nat.le_refl _, [], by simp [putW], rfl⟩
structure Evl.Good (ev : Evl) : Prop where
 E : ∀ d fr h k m, (ev.E d fr h k m).from m
 L : ∀ d fr l m, (ev.L d fr l m).from m
 W : ∀ d fr h k b m, (ev.W d fr h k b m).from m
 F : ∀ d g l m, (ev.F d g l m).from m
section
variable {cf : Cf} {ev : Evl} (hg : ev.Good)
include hg
theorem evK_from (d : Nat) (fr : Fr) (l : Exs) (i : Nat) (m : MS) : (evK ev d fr l i m).from m := by
 unfold evK
 split
 ·exact hg.E _ _ _ _ _
 ·trivial
theorem evArgs_from (d : Nat) (fr : Fr) : ∀ (l : Exs) (m : MS), (evArgs ev d fr l m).from m
 | .nil, m => MS.le_refl _
 | .cons h k r, m => Out.from_bind (hg.E _ _ _ _ _) fun v m1 _ => Out.from_bind (evArgs_from d fr r m1) fun l m2 _ => MS.le_refl _
theorem exprB_from (d : Nat) (fr : Fr) (h : EH) (k : Exs) (m : MS) : (exprB cf ev d fr h k m).from m := by
 unfold exprB
 split
 ·exact MS.le_refl _
 split
 ·exact MS.le_refl _
 split
 ·refine Out.from_bind (evK_from hg _ _ _ _ _) fun i m1 _ => ?_
  split <;> exact MS.le_refl _
 split
 ·refine Out.from_bind (evArgs_from hg _ _ _ _) fun args m1 _ => ?_
  split
  ·trivial
  ·split
   ·exact hg.F _ _ _ _
   ·unfold hostV
    split
    ·exact MS.le_refl _
    ·split
     ·trivial
     ·exact ⟨Nat.le_refl _, [_], rfl, rfl⟩
 split
 ·refine Out.from_bind (evK_from hg _ _ _ _ _) fun v m1 _ => ?_
  repeat' split
  all_goals exact MS.le_refl _
 split
 ·refine Out.from_bind (evK_from hg _ _ _ _ _) fun a m1 _ => ?_
  split
  ·exact MS.le_refl _
  split
  ·exact MS.le_refl _
  refine Out.from_bind (evK_from hg _ _ _ _ _) fun b m2 _ => ?_
  repeat' split
  all_goals exact MS.le_refl _
 split
 ·refine Out.from_bind (evK_from hg _ _ _ _ _) fun v m1 _ => ?_
  repeat' split
  all_goals exact MS.le_refl _
 ·trivial
theorem setV_from (d : Nat) (fr : Fr) (h : SH) (x : Exs) (m : MS) : (setV cf ev d fr h x m).from m := by
 unfold setV
 refine Out.from_bind (evK_from hg _ _ _ _ _) fun v m1 _ => ?_
 split
 ·exact writeV_le _ _ _ _
 ·split
  ·exact writeV_le _ _ _ _
  ·exact MS.le_refl _
theorem putV_from (d : Nat) (fr : Fr) (h : SH) (x : Exs) (m : MS) : (putV cf ev d fr h x m).from m := by
 unfold putV
 refine Out.from_bind (evK_from hg _ _ _ _ _) fun i m1 _ => ?_
 split
 ·exact MS.le_refl _
 ·refine Out.from_bind (evK_from hg _ _ _ _ _) fun v m2 _ => ?_
  split
  ·exact putW_le _ _ _ _
  ·split
   ·exact putW_le _ _ _ _
   ·exact MS.le_refl _
theorem stmtV_from (d : Nat) (fr : Fr) (h : SH) (x : Exs) (b e : Sts) (m : MS) : (stmtV cf ev d fr h x b e m).from m := by
 unfold stmtV
 refine Out.from_bind (tick_from _ _) fun _ m1 _ => ?_
 split
 ·exact Out.from_bind (evK_from hg _ _ _ _ _) fun v m1 _ => MS.le_refl _
 split
 ·exact Out.from_bind (setV_from hg _ _ _ _ _) fun v m1 _ => MS.le_refl _
 split
 ·exact Out.from_bind (putV_from hg _ _ _ _ _) fun v m1 _ => MS.le_refl _
 split
 ·refine Out.from_bind (evK_from hg _ _ _ _ _) fun v m1 _ => ?_
  split <;> exact hg.L _ _ _ _
 split
 ·split
  ·exact hg.W _ _ _ _ _ _
  ·trivial
 split
 ·exact MS.le_refl _
 split
 ·exact MS.le_refl _
 split
 ·exact Out.from_bind (evK_from hg _ _ _ _ _) fun v m1 _ => MS.le_refl _
 split
 ·exact Out.from_bind (evK_from hg _ _ _ _ _) fun v m1 _ => MS.le_refl _
 ·exact MS.le_refl _
theorem stmtsV_from (d : Nat) : ∀ (l : Sts) (fr : Fr) (m : MS), (stmtsV cf ev d l fr m).from m
 | .nil, fr, m => MS.le_refl _
 | .cons h x b e r, fr, m => by
  unfold stmtsV
  refine Out.from_bind (stmtV_from hg _ _ _ _ _ _ _) fun q m1 _ => ?_
  split
  ·exact stmtsV_from d r _ _
  ·exact MS.le_refl _
theorem whileV_from (d : Nat) (fr : Fr) (h : EH) (k : Exs) (b : Sts) (m : MS) : (whileV cf ev d fr h k b m).from m := by
 unfold whileV
 refine Out.from_bind (hg.E _ _ _ _ _) fun c m1 _ => ?_
 split
 ·exact MS.le_refl _
 ·refine Out.from_bind (hg.L _ _ _ _) fun q m2 _ => ?_
  split
  ·exact MS.le_refl _
  split
  ·exact MS.le_refl _
  ·exact Out.from_bind (tick_from _ _) fun _ m3 _ => hg.W _ _ _ _ _ _
theorem funcV_from (d : Nat) (g : Sig) (l : List Int) (m : MS) : (funcV cf ev d g l m).from m := by
 unfold funcV
 split
 ·exact MS.le_refl _
 ·split
  ·trivial
  ·exact Out.from_bind (hg.L _ _ _ _) fun q m2 _ => MS.le_refl _
end
theorem evl_good (cf : Cf) : ∀ n, (evl cf n).Good
 | 0 => ⟨fun _ _ _ _ _ => trivial, fun _ _ _ _ => trivial, fun _ _ _ _ _ _ => trivial, fun _ _ _ _ => trivial⟩
 | n + 1 => ⟨fun d fr h k m => Out.from_bind (tick_from _ _) fun _ m1 _ => exprB_from (evl_good cf n) _ _ _ _ _, fun d fr l m => Out.from_bind (stmtsV_from (evl_good cf n) _ _ _ _) fun q m1 _ => MS.le_refl _,
  fun d fr h k b m => whileV_from (evl_good cf n) _ _ _ _ _ _, fun d g l m => funcV_from (evl_good cf n) _ _ _ _⟩
end
section
abbrev opval (x : Int × Int) : Value := .agg #[.int .u8 x.1, .int .u8 x.2]
theorem under270 : Tryz.prog.underlying 270 = some (.map 9 269) := by kernel_rfl
theorem getM_mem {α : Type} (s : ByteArray) : ∀ (l : List (ByteArray × α)) (v : α), getM s l = some v → ∃ k, (k, v) ∈ l
 | [], v, h => by cases h
 | x :: l, v, h => by
  rw [getM_cons] at h
  split at h
  ·cases h
   exact ⟨x.1, by simp⟩
  ·obtain ⟨k, hk⟩ := getM_mem s l v h
   exact ⟨k, by simp [hk]⟩
theorem zero269 (w : World) : (zeroValue 269).run Tryz.prog w = .ok (.agg #[.int .u8 0, .int .u8 0]) w := by kernel_rfl
theorem opsPut : (putM ⟨#[62, 61]⟩ (opval (18, 28)) (putM ⟨#[62]⟩ (opval (17, 27)) (putM ⟨#[60, 61]⟩ (opval (16, 26)) (putM ⟨#[60]⟩ (opval (15, 25)) (putM ⟨#[33, 61]⟩ (opval (14, 24)) (putM ⟨#[61, 61]⟩ (opval (13, 23)) (putM ⟨#[62, 62]⟩ (opval (51, 0)) (putM ⟨#[60, 60]⟩ (opval (50, 0)) (putM ⟨#[94]⟩ (opval (48, 0)) (putM ⟨#[124]⟩ (opval (47, 0)) (putM ⟨#[38]⟩ (opval (46, 0)) (putM ⟨#[37]⟩ (opval (44, 0)) (putM ⟨#[47]⟩ (opval (42, 57)) (putM ⟨#[42]⟩ (opval (41, 56)) (putM ⟨#[45]⟩ (opval (40, 55)) (putM ⟨#[43]⟩ (opval (39, 54)) ([] : List (ByteArray × Value)))))))))))))))))) = opT.map (fun x => (x.1, opval x.2)) := by rfl
theorem ops143 (s : ByteArray) (w : World) : Calls Tryz.prog 143 #[.string s] w fun e w' => e = .returned (.tuple #[.int .u8 (opsOf s).1, .int .u8 (opsOf s).2]) ∧ Below w.heap.size w w' := by
 obtain ⟨w0, hw0⟩ : ∃ x : World, x = w.alloc (.map #[] 0) := ⟨_, rfl⟩
 have hmm : (Instr.makeMap 270 none).run Tryz.prog w = .ok (.map (some w.heap.size)) w0 := by rw [hw0]; exact run_makeMap 270 w
 have m0 : Mp w0 w.heap.size [] := by rw [hw0]; exact Mp.new w
 have b0 : Below w.heap.size w w0 := by rw [hw0]; exact (Below.refl _ w).alloc (Nat.le_refl _) _
 obtain ⟨w1, r1, g1, z1, m1⟩ := m0.update under270 under9 ⟨#[43]⟩ (opval (39, 54))
 have b1 := b0.grown g1 b0.size (fun k e => by cases e; exact Nat.le_refl _)
 obtain ⟨w2, r2, g2, z2, m2⟩ := m1.update under270 under9 ⟨#[45]⟩ (opval (40, 55))
 have b2 := b1.grown g2 b1.size (fun k e => by cases e; exact Nat.le_refl _)
 obtain ⟨w3, r3, g3, z3, m3⟩ := m2.update under270 under9 ⟨#[42]⟩ (opval (41, 56))
 have b3 := b2.grown g3 b2.size (fun k e => by cases e; exact Nat.le_refl _)
 obtain ⟨w4, r4, g4, z4, m4⟩ := m3.update under270 under9 ⟨#[47]⟩ (opval (42, 57))
 have b4 := b3.grown g4 b3.size (fun k e => by cases e; exact Nat.le_refl _)
 obtain ⟨w5, r5, g5, z5, m5⟩ := m4.update under270 under9 ⟨#[37]⟩ (opval (44, 0))
 have b5 := b4.grown g5 b4.size (fun k e => by cases e; exact Nat.le_refl _)
 obtain ⟨w6, r6, g6, z6, m6⟩ := m5.update under270 under9 ⟨#[38]⟩ (opval (46, 0))
 have b6 := b5.grown g6 b5.size (fun k e => by cases e; exact Nat.le_refl _)
 obtain ⟨w7, r7, g7, z7, m7⟩ := m6.update under270 under9 ⟨#[124]⟩ (opval (47, 0))
 have b7 := b6.grown g7 b6.size (fun k e => by cases e; exact Nat.le_refl _)
 obtain ⟨w8, r8, g8, z8, m8⟩ := m7.update under270 under9 ⟨#[94]⟩ (opval (48, 0))
 have b8 := b7.grown g8 b7.size (fun k e => by cases e; exact Nat.le_refl _)
 obtain ⟨w9, r9, g9, z9, m9⟩ := m8.update under270 under9 ⟨#[60, 60]⟩ (opval (50, 0))
 have b9 := b8.grown g9 b8.size (fun k e => by cases e; exact Nat.le_refl _)
 obtain ⟨w10, r10, g10, z10, m10⟩ := m9.update under270 under9 ⟨#[62, 62]⟩ (opval (51, 0))
 have b10 := b9.grown g10 b9.size (fun k e => by cases e; exact Nat.le_refl _)
 obtain ⟨w11, r11, g11, z11, m11⟩ := m10.update under270 under9 ⟨#[61, 61]⟩ (opval (13, 23))
 have b11 := b10.grown g11 b10.size (fun k e => by cases e; exact Nat.le_refl _)
 obtain ⟨w12, r12, g12, z12, m12⟩ := m11.update under270 under9 ⟨#[33, 61]⟩ (opval (14, 24))
 have b12 := b11.grown g12 b11.size (fun k e => by cases e; exact Nat.le_refl _)
 obtain ⟨w13, r13, g13, z13, m13⟩ := m12.update under270 under9 ⟨#[60]⟩ (opval (15, 25))
 have b13 := b12.grown g13 b12.size (fun k e => by cases e; exact Nat.le_refl _)
 obtain ⟨w14, r14, g14, z14, m14⟩ := m13.update under270 under9 ⟨#[60, 61]⟩ (opval (16, 26))
 have b14 := b13.grown g14 b13.size (fun k e => by cases e; exact Nat.le_refl _)
 obtain ⟨w15, r15, g15, z15, m15⟩ := m14.update under270 under9 ⟨#[62]⟩ (opval (17, 27))
 have b15 := b14.grown g15 b14.size (fun k e => by cases e; exact Nat.le_refl _)
 obtain ⟨w16, r16, g16, z16, m16⟩ := m15.update under270 under9 ⟨#[62, 61]⟩ (opval (18, 28))
 have b16 := b15.grown g16 b15.size (fun k e => by cases e; exact Nat.le_refl _)
 rw [opsPut] at m16
 have hl := m16.lookup under270 under9 s _ (zero269 w16) false
 rw [getM_map] at hl
 have hv : ((getM s opT).map opval).getD (.agg #[.int .u8 0, .int .u8 0]) = .agg #[.int .u8 (opsOf s).1, .int .u8 (opsOf s).2] := by unfold opsOf; cases getM s opT <;> rfl
 simp only [Bool.false_eq_true, if_false, hv] at hl
 have HB := hid (b16.alloc b16.size (.cells #[.int .u8 (opsOf s).1, .int .u8 (opsOf s).2] 269))
 generalize opsOf s = o at hl HB ⊢
 obtain ⟨o1, o2⟩ := o
 clear hw0 hv m1 g1 z1 b1 m2 g2 z2 b2 m3 g3 z3 b3 m4 g4 z4 b4 m5 g5 z5 b5 m6 g6 z6 b6 m7 g7 z7 b7 m8 g8 z8 b8 m9 g9 z9 b9 m10 g10 z10 b10 m11 g11 z11 b11 m12 g12 z12 b12 m13 g13 z13 b13 m14 g14 z14 b14 m15 g15 z15 b15 m16 g16 z16 b16 m0 b0
 go_enter Tryz.func143, Tryz.ntmps143
 go_wp2_with fail
 have hx := Bx.new w16 #[.int .u8 o1, .int .u8 o2] 269
 generalize w16.alloc (.cells #[.int .u8 o1, .int .u8 o2] 269) = wn at hx HB ⊢
 have q0 : wn.drew.cell? ⟨w16.heap.size, 0, none⟩ = some (.int .u8 o1) := by simpa using hx.cell 0
 have q1 : wn.drew.cell? ⟨w16.heap.size, 1, none⟩ = some (.int .u8 o2) := by simpa using hx.cell 1
 go_region
 go_wp2_with fail
 go_ret2
 exact ⟨rfl, HB.out.drew⟩
theorem truth117 (b : Bool) (w : World) : Calls Tryz.prog 117 #[.bool b] w fun e w' => e = .returned (.int .u32 (if b then 1 else 0)) ∧ w' = w := by
 cases b
 ·go_enter Tryz.func117, Tryz.ntmps117
  go_wp2
  go_ret
  exact ⟨rfl, rfl⟩
 ·go_enter Tryz.func117, Tryz.ntmps117
  go_wp2
  go_ret
  exact ⟨rfl, rfl⟩
theorem of85 (a p : Int) (w : World) : Calls Tryz.prog 85 #[.int .u32 a, .int .i64 p] w fun e w' => e = .returned (.int .u32 a) ∧ w' = w := by
 go_enter Tryz.func85, Tryz.ntmps85
 go_wp2
 go_ret
 exact ⟨rfl, rfl⟩
def opOf (s : ByteArray) (t : Int) : Int := if t = 2 then (opsOf s).2 else (opsOf s).1
theorem opOf_known (s : ByteArray) (t : Int) : opOf s t ∈ opsL ∨ ∀ a b, holdsV (opOf s t) a b ≠ none := by
 unfold opOf opsOf
 cases h : getM s opT with
 | none => left; simp [opsL]
 | some v =>
  obtain ⟨k, hk⟩ := getM_mem s opT v h
  simp only [opT, List.mem_cons, List.mem_nil_iff, or_false, Prod.mk.injEq] at hk
  simp only [Option.getD_some]
  rcases hk with ⟨rfl, rfl⟩ | ⟨rfl, rfl⟩ | ⟨rfl, rfl⟩ | ⟨rfl, rfl⟩ | ⟨rfl, rfl⟩ | ⟨rfl, rfl⟩ | ⟨rfl, rfl⟩ | ⟨rfl, rfl⟩ | ⟨rfl, rfl⟩ | ⟨rfl, rfl⟩ | ⟨rfl, rfl⟩ | ⟨rfl, rfl⟩ | ⟨rfl, rfl⟩ | ⟨rfl, rfl⟩ | ⟨rfl, rfl⟩ | ⟨rfl, rfl⟩ <;> split <;> first | (left; simp [opsL]; done) | (right; intro a b; simp [holdsV, floatH])
abbrev aluV : Alu := ⟨unaryV, holdsV, binV⟩
abbrev endE (k f : Int) : Ending := .panicked [{ v := .iface 168 (.agg #[.int .u8 k, .int .u8 f]), recovered := false }]
def outW (o : Option Int) : Ending := match o with
 | some r => .returned (.int .u32 r)
 | none => endE 2 2
theorem worked118 (s : ByteArray) (t a b : Int) (hb : 0 ≤ b) (w : World) : Calls Tryz.prog 118 #[.string s, .int .u8 t, .int .u32 a, .int .u32 b] w fun e w' => e = outW (workedV aluV s t a b) ∧ Below w.heap.size w w' := by
 have hk := hid (opOf_known s t)
 have c1 := hid (ops143 s w)
 have hV := hid (show workedV aluV s t a b = (match holdsV (opOf s t) a b with | some r => some (if r then 1 else 0) | none => binV (opOf s t) a b) from rfl)
 have tail : ∀ (w2 : World), Below w.heap.size w w2 → True := fun _ _ => trivial
 obtain ⟨o, ho⟩ : ∃ x, x = opOf s t := ⟨_, rfl⟩
 have hT := hid ho
 rw [← ho] at hk hV
 clear ho tail
 have hbb := hid (show 0 ≤ b.tmod 32 from Int.tmod_nonneg _ hb)
 clear hb
 go_enter Tryz.func118, Tryz.ntmps118
 go_wp2_with fail
 refine c1.out.mono ?_
 rintro e w2 ⟨rfl, hb2⟩
 have hB := hid hb2
 clear c1 hb2
 have ch := hid (holds144 o a b w2)
 by_cases ht : t = 2
 ·subst t
  have hq : (opsOf s).2 = o := by rw [hT.out]; rfl
  rw [hq]
  clear hT
  go_wp2_with fail
  refine ch.out.mono ?_
  rintro e w3 ⟨rfl, hw⟩
  subst w3
  clear ch
  cases hh : holdsV o a b with
  | some r =>
   rw [hh] at hV
   have hW := hid (show outW (workedV aluV s _ a b) = .returned (.int .u32 (if r then 1 else 0)) by rw [hV.out]; rfl)
   have ct := hid (truth117 r w2)
   generalize (if r then (1 : Int) else 0) = z at ct hW
   clear hh hV hk
   unfold outH
   go_wp2_with fail
   refine ct.out.mono ?_
   rintro e w3 ⟨rfl, hw⟩
   subst w3
   clear ct
   go_wp2_with fail
   go_ret
   exact ⟨hW.out.symm, hB.out⟩
  | none =>
   rw [hh] at hV
   have ho := hid (hk.out.resolve_right (fun q => q a b hh))
   have cb := hid (binary145 o a b ho.out hbb.out w2)
   clear hh hk ho hbb
   unfold outH
   go_wp2_with fail
   refine cb.out.mono ?_
   rintro e w3 ⟨he, hb3⟩
   have hB3 := hid (hB.out.trans (hb3.mono hB.out.size))
   clear cb hb3
   cases hv : binV o a b with
   | some r =>
    rw [hv] at he hV
    have hW := hid (show outW (workedV aluV s _ a b) = .returned (.int .u32 r) by rw [hV.out]; rfl)
    unfold resB at he
    simp only [] at he
    have he2 : errB o ≠ 60 := by unfold errB; split <;> omega
    generalize errB o = eb at he he2
    subst he
    clear hv hV
    go_wp2_with fail
    go_ret
    exact ⟨hW.out.symm, hB3.out⟩
   | none =>
    rw [hv] at he hV
    have hW := hid (show outW (workedV aluV s _ a b) = endE 2 2 by rw [hV.out]; rfl)
    unfold resB at he
    simp only [] at he
    subst he
    clear hv hV
    go_wp2_with fail
    refine bp_panic ?_
    exact ⟨hW.out.symm, hB3.out⟩
 ·have hq : (opsOf s).1 = o := by rw [hT.out]; simp [opOf, ht]
  rw [hq]
  clear hT
  go_wp2_with fail
  refine ch.out.mono ?_
  rintro e w3 ⟨rfl, hw⟩
  subst w3
  clear ch
  cases hh : holdsV o a b with
  | some r =>
   rw [hh] at hV
   have hW := hid (show outW (workedV aluV s _ a b) = .returned (.int .u32 (if r then 1 else 0)) by rw [hV.out]; rfl)
   have ct := hid (truth117 r w2)
   generalize (if r then (1 : Int) else 0) = z at ct hW
   clear hh hV hk
   unfold outH
   go_wp2_with fail
   refine ct.out.mono ?_
   rintro e w3 ⟨rfl, hw⟩
   subst w3
   clear ct
   go_wp2_with fail
   go_ret
   exact ⟨hW.out.symm, hB.out⟩
  | none =>
   rw [hh] at hV
   have ho := hid (hk.out.resolve_right (fun q => q a b hh))
   have cb := hid (binary145 o a b ho.out hbb.out w2)
   clear hh hk ho hbb
   unfold outH
   go_wp2_with fail
   refine cb.out.mono ?_
   rintro e w3 ⟨he, hb3⟩
   have hB3 := hid (hB.out.trans (hb3.mono hB.out.size))
   clear cb hb3
   cases hv : binV o a b with
   | some r =>
    rw [hv] at he hV
    have hW := hid (show outW (workedV aluV s _ a b) = .returned (.int .u32 r) by rw [hV.out]; rfl)
    unfold resB at he
    simp only [] at he
    have he2 : errB o ≠ 60 := by unfold errB; split <;> omega
    generalize errB o = eb at he he2
    subst he
    clear hv hV
    go_wp2_with fail
    go_ret
    exact ⟨hW.out.symm, hB3.out⟩
   | none =>
    rw [hv] at he hV
    have hW := hid (show outW (workedV aluV s _ a b) = endE 2 2 by rw [hV.out]; rfl)
    unfold resB at he
    simp only [] at he
    subst he
    clear hv hV
    go_wp2_with fail
    refine bp_panic ?_
    exact ⟨hW.out.symm, hB3.out⟩
end
end Go.Proofs.YtlabadkfkbenoaaGreatDoor
