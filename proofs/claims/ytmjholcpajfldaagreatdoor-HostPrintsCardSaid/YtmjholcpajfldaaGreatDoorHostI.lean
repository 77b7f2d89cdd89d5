/- Walks: the call int; lives. No condition. -/
import Derived.Lib.AppendIntMem
import Derived.Lib.ItoaLen
import Derived.Test.YtmjholcpajfldaaGreatDoorHostH
namespace Go.Proofs.YtmjholcpajfldaaGreatDoor
open Go.RowKit
set_option linter.unusedVariables false
set_option linter.unusedSimpArgs false

set_option maxRecDepth 100000

/-- a word as a number with a sign -/
def sgn (x : Nat) : Int := if x < 2147483648 then x else (x : Int) - 4294967296
abbrev TB (w : World) : Prop := Lib.TabIs Tryz.prog w "internal/strconv.uint64pow10" .u64 Lib.pow10Tab
set_option maxHeartbeats 1000000 in
theorem signed69 (x : Nat) (hx : x < 4294967296) (w : World) (htab : TB w) :
    Calls Tryz.prog 69 #[.int .u32 x] w fun e w' => e = .returned (.string ⟨(Lib.itoa (sgn x)).toArray⟩) ∧ Below w.heap.size w w' := by
  have hs : IntKind.i32.wrap (x : Int) = sgn x := by
    unfold sgn
    rw [IntKind.wrap_i32]
    split <;> omega
  have hb : -2147483648 ≤ sgn x ∧ sgn x ≤ 2147483647 := by unfold sgn; split <;> omega
  have h11 := hid (Tryz.strconv_Itoa (sgn x) (by omega) (by omega) w htab)
  clear htab
  generalize sgn x = n at *
  have hw : IntKind.i64.wrap n = n := IntWalk.i64_in _ (by omega)
  go_enter Tryz.func69, Tryz.ntmps69
  go_wp2_with fail
  refine h11.out.mono ?_
  clear h11
  rintro e w1 ⟨rfl, k, os, hw1⟩
  have hB : Hid (Below w.heap.size w w1) := hw1 ▸ Lib.below_grow w.heap.size w (Nat.le_refl _) k os
  clear hw1
  go_wp2_with fail
  go_ret
  exact ⟨rfl, hB.out⟩
/-- what int does to a host whose console has room -/
theorem int39 {w : World} {B h mb : Nat} {cv : Value} {con : List UInt8} {vs : List (ByteArray × Value)} {sd ck : Int} (hH : Ho w B h cv con mb vs sd ck) (m : Value) (ab : Nat) (x : Nat) (hx : x < 4294967296) (ha : Bx w ab #[.int .u32 x] 23)
    (htab : ∀ w', Below w.heap.size w w' → TB w') (hl : con.length + (Lib.itoa (sgn x)).length ≤ 4096) :
    Calls Tryz.prog 39 #[.pointer (some ⟨h, 0, none⟩), .agg #[m, .slice (some ⟨ab, 0, none⟩) 1 1]] w (Does (HT h mb cv) (fun v r w' => v = (Lib.itoa (sgn x)).length ∧ r = .slice none 0 0 ∧ ∃ cv', Ho w' B h cv' (con ++ Lib.itoa (sgn x)) mb vs sd ck) w) := by
  have b0 := hid (((Below.refl w.heap.size w).alloc (Nat.le_refl _) (.cells #[m, .slice (some ⟨ab, 0, none⟩) 1 1] 74)).alloc (by simp) (.cells #[.int .u32 0, .slice none 0 0] 30))
  have X0 := hid ((Bx.new w #[m, .slice (some ⟨ab, 0, none⟩) 1 1] 74).below ((Below.refl _ _).alloc (Nat.le_refl _) (.cells #[.int .u32 0, .slice none 0 0] 30)))
  have X1 : Hid (Bx ((w.alloc (.cells #[m, .slice (some ⟨ab, 0, none⟩) 1 1] 74)).alloc (.cells #[.int .u32 0, .slice none 0 0] 30)) (w.heap.size + 1) #[.int .u32 0, .slice none 0 0] 30) := hid (by simpa using Bx.new (w.alloc (.cells #[m, .slice (some ⟨ab, 0, none⟩) 1 1] 74)) #[.int .u32 0, .slice none 0 0] 30)
  have H0 := hid (hH.below b0.out)
  have a0 := ha.below b0.out
  have hlt := hid (fun b hb => (hH.hlt b hb).2)
  have sg := hid (fun w1 (h1 : Below w.heap.size w w1) => signed69 x hx w1 (htab w1 h1))
  have hs0 : ((w.alloc (.cells #[m, .slice (some ⟨ab, 0, none⟩) 1 1] 74)).alloc (.cells #[.int .u32 0, .slice none 0 0] 30)).heap.size = w.heap.size + 2 := by simp
  clear hH ha htab
  generalize Lib.itoa (sgn x) = t at *
  go_enter Tryz.func39, Tryz.ntmps39
  generalize hw0 : (w.alloc (.cells #[m, .slice (some ⟨ab, 0, none⟩) 1 1] 74)).alloc (.cells #[.int .u32 0, .slice none 0 0] 30) = w0 at *
  have c0 : w0.cell? ⟨w.heap.size, 1, none⟩ = some (.slice (some ⟨ab, 0, none⟩) 1 1) := by simpa using X0.out.cell 1
  have c1 : w0.cell? ⟨ab, 0, none⟩ = some (.int .u32 x) := by simpa using a0.cell 0
  go_wp2_with fail
  refine (sg.out w0 b0.out).mono ?_
  rintro e w1 ⟨rfl, hb1⟩
  have H1 := hid (H0.out.below hb1)
  have B1 := hid (b0.out.trans (hb1.mono b0.out.size))
  have X2 := hid (X1.out.below hb1)
  have hz1 : w.heap.size + 2 ≤ w1.heap.size := by have := hb1.size; omega
  clear hb1 H0 b0 X0 X1 c0 c1 hs0 hw0 a0 sg
  have cs := hid (show66 H1.out ⟨t.toArray⟩ (by simpa [ByteArray.size] using hl))
  clear H1
  go_wp2_with fail
  refine cs.out.mono ?_
  clear cs
  rintro e w2 ⟨rfl, hk2, cv', hH2⟩
  have N6 : ∀ b, w.heap.size ≤ b → ¬ HT h mb cv b := fun b h8 h9 => by have := hlt.out b h9; omega
  have V1 : Bx w2 (w.heap.size + 1) #[.int .u32 0, .slice none 0 0] 30 := hk2.box X2.out X2.out.lt (N6 _ (by omega))
  have q0 : w2.cell? ⟨w.heap.size + 1, 0, none⟩ = some (.int .u32 0) := by simpa using V1.cell 0
  have q1 : w2.cell? ⟨w.heap.size + 1, 1, none⟩ = some (.slice none 0 0) := by simpa using V1.cell 1
  have f0 := V1.free 0
  have f1 := V1.free 1
  have H2 := hid hH2
  have K2 := hid ((Kpt.of (T := HT h mb cv) B1.out).trans (hk2.mono B1.out.size (fun b _ h9 => h9)))
  have hz2 := hk2.size
  have hob := hid (row_ne_box hH2.own V1 (by decide))
  have hhm : Hid (h < w.heap.size ∧ mb < w.heap.size) := ⟨hlt.out h (.inl rfl), hlt.out mb (.inr (.inl rfl))⟩
  have W1 := hid V1
  have F := hid ((V1.set 0 (.int .u32 ((⟨t.toArray⟩ : ByteArray).size : Int))).set 1 (.slice none 0 0))
  clear V1 N6 hk2 hH2 B1 X2
  go_wp2_with fail
  refine bodyPost_ret (v := .agg #[.int .u32 ((⟨t.toArray⟩ : ByteArray).size : Int), .slice none 0 0]) (results_cell_row rfl _ _ (w.heap.size + 1) _ _ _ _ rfl F.out Tryz.underlying30 rfl (by kernel_rfl)) rfl ?_
  refine ⟨_, none, 0, 0, rfl, K2.out.trans (Kpt.gr (set30 _ _ _ _) (by omega) fun b e => by simp only [Option.some.injEq] at e; exact .inr (by omega)), by simp [ByteArray.size], rfl, cv', ?_⟩
  have hq := hhm.out
  refine H2.out.kpt (T := fun b => b = w.heap.size + 1) (Kpt.gr (set30 _ _ _ _) (Nat.le_refl _) fun k e => by simp only [Option.some.injEq] at e; exact .inl e.symm) fun b hb e => ?_
  rcases hb with hb | hb | hb
  · omega
  · omega
  · rw [e] at hb
    exact hob.out hb

end Go.Proofs.YtmjholcpajfldaaGreatDoor
