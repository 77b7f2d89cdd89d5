/- Walks: the call random. No condition. -/
import Derived.Test.YtmjholcpajfldaaGreatDoorHostQ
namespace Go.Proofs.YtmjholcpajfldaaGreatDoor
open Go.RowKit
set_option linter.unusedVariables false
set_option linter.unusedSimpArgs false

set_option maxRecDepth 100000

/-- a number by chance is below its bound -/
def RndR (bl : Int) (v : Int) (r : Value) (w' : World) : Prop := r = .slice none 0 0 ∧ 0 ≤ v ∧ (0 < bl → v < bl)
set_option maxHeartbeats 16000000 in
theorem random50 {w : World} {B h mb : Nat} {cv : Value} {con : List UInt8} {vs : List (ByteArray × Value)} {sd ck : Int} (hH : Ho w B h cv con mb vs sd ck) (q ab : Nat) (bl : Int) (hbl : 0 ≤ bl ∧ bl ≤ 4294967295) (ha : Bx w ab #[.int .u32 bl] 23) (habx : ¬ HT h mb cv ab) :
    Calls Tryz.prog 50 #[.pointer (some ⟨h, 0, none⟩), .agg #[.pointer (some ⟨q, 0, none⟩), .slice (some ⟨ab, 0, none⟩) 1 1]] w (Does (HT h mb cv) (RndR bl) w) := by
  have b0 := hid (((Below.refl w.heap.size w).alloc (Nat.le_refl _) (.cells #[.pointer (some ⟨q, 0, none⟩), .slice (some ⟨ab, 0, none⟩) 1 1] 74)).alloc (by simp) (.cells #[.int .u32 0, .slice none 0 0] 30))
  have X0 := hid ((Bx.new w #[.pointer (some ⟨q, 0, none⟩), .slice (some ⟨ab, 0, none⟩) 1 1] 74).below ((Below.refl _ _).alloc (Nat.le_refl _) (.cells #[.int .u32 0, .slice none 0 0] 30)))
  have X1 : Hid (Bx ((w.alloc (.cells #[.pointer (some ⟨q, 0, none⟩), .slice (some ⟨ab, 0, none⟩) 1 1] 74)).alloc (.cells #[.int .u32 0, .slice none 0 0] 30)) (w.heap.size + 1) #[.int .u32 0, .slice none 0 0] 30) := hid (by simpa using Bx.new (w.alloc (.cells #[.pointer (some ⟨q, 0, none⟩), .slice (some ⟨ab, 0, none⟩) 1 1] 74)) #[.int .u32 0, .slice none 0 0] 30)
  have hx := hid (hH.below b0.out).bx
  have A0 := hid (ha.below b0.out)
  have hhl := hH.bx.lt
  have hal := ha.lt
  have hha : h ≠ ab := fun e => habx (.inl e.symm)
  have hs0 : ((w.alloc (.cells #[.pointer (some ⟨q, 0, none⟩), .slice (some ⟨ab, 0, none⟩) 1 1] 74)).alloc (.cells #[.int .u32 0, .slice none 0 0] 30)).heap.size = w.heap.size + 2 := by simp
  clear hH ha habx
  obtain ⟨w0, hw0⟩ : ∃ w0, (w.alloc (.cells #[.pointer (some ⟨q, 0, none⟩), .slice (some ⟨ab, 0, none⟩) 1 1] 74)).alloc (.cells #[.int .u32 0, .slice none 0 0] 30) = w0 := ⟨_, rfl⟩
  rw [hw0] at b0 X0 X1 hx A0 hs0
  have c2 : w0.cell? ⟨h, 2, none⟩ = some (.int .u64 sd) := by simpa using hx.out.cell 2
  have f2 := hx.out.free 2
  go_enter Tryz.func50, Tryz.ntmps50
  go_wp2_with fail
  clear hw0
  have hz0 := hs0
  go_region
  obtain ⟨s1, hs1d⟩ : ∃ s, bits BinOp.xor IntKind.u64 sd (IntKind.u64.wrap (sd * 8192)) = s := ⟨_, rfl⟩
  rw [hs1d]
  have g1 := grown_trans (grown_set w0 h 2 (.int .u64 s1)) (grownBy_drew _ _)
  have c2' : ((w0.setCell ⟨h, 2, none⟩ (.int .u64 s1)).drew).cell? ⟨h, 2, none⟩ = some (.int .u64 s1) := World.cell?_setCell_same' w0 ⟨h, 2, none⟩ (.int .u64 s1) (by rw [c2]; rfl)
  have f2' : ((w0.setCell ⟨h, 2, none⟩ (.int .u64 s1)).drew).frozen? ⟨h, 2, none⟩ = false := by simpa using f2
  have hz1 : ((w0.setCell ⟨h, 2, none⟩ (.int .u64 s1)).drew).heap.size = w.heap.size + 2 := by simpa using hz0
  clear hs1d c2 f2
  generalize (w0.setCell ⟨h, 2, none⟩ (.int .u64 s1)).drew = w1 at *
  have c2 := c2'
  have f2 := f2'
  clear c2' f2'
  have G1 := hid g1
  clear g1
  go_wp2_with fail
  go_region
  obtain ⟨s2, hs2d⟩ : ∃ s, bits BinOp.xor IntKind.u64 s1 (s1 / 128) = s := ⟨_, rfl⟩
  rw [hs2d]
  have g2 := grown_trans (grown_set w1 h 2 (.int .u64 s2)) (grownBy_drew _ _)
  have c2' : ((w1.setCell ⟨h, 2, none⟩ (.int .u64 s2)).drew).cell? ⟨h, 2, none⟩ = some (.int .u64 s2) := World.cell?_setCell_same' w1 ⟨h, 2, none⟩ (.int .u64 s2) (by rw [c2]; rfl)
  have f2' : ((w1.setCell ⟨h, 2, none⟩ (.int .u64 s2)).drew).frozen? ⟨h, 2, none⟩ = false := by simpa using f2
  have hz2 : ((w1.setCell ⟨h, 2, none⟩ (.int .u64 s2)).drew).heap.size = w.heap.size + 2 := by simpa using hz1
  clear hs2d c2 f2
  generalize (w1.setCell ⟨h, 2, none⟩ (.int .u64 s2)).drew = w2 at *
  have c2 := c2'
  have f2 := f2'
  clear c2' f2'
  have G2 := hid g2
  clear g2
  go_wp2_with fail
  go_region
  obtain ⟨s3, hs3d⟩ : ∃ s, bits BinOp.xor IntKind.u64 s2 (IntKind.u64.wrap (s2 * 131072)) = s := ⟨_, rfl⟩
  rw [hs3d]
  have g3 := grown_trans (grown_set w2 h 2 (.int .u64 s3)) (grownBy_drew _ _)
  have c2' : ((w2.setCell ⟨h, 2, none⟩ (.int .u64 s3)).drew).cell? ⟨h, 2, none⟩ = some (.int .u64 s3) := World.cell?_setCell_same' w2 ⟨h, 2, none⟩ (.int .u64 s3) (by rw [c2]; rfl)
  have f2' : ((w2.setCell ⟨h, 2, none⟩ (.int .u64 s3)).drew).frozen? ⟨h, 2, none⟩ = false := by simpa using f2
  have hz3 : ((w2.setCell ⟨h, 2, none⟩ (.int .u64 s3)).drew).heap.size = w.heap.size + 2 := by simpa using hz2
  clear hs3d c2 f2
  generalize (w2.setCell ⟨h, 2, none⟩ (.int .u64 s3)).drew = w3 at *
  have c2 := c2'
  have f2 := f2'
  clear c2' f2'
  have G3 := hid g3
  clear g3
  have GG := hid (grown_trans G1.out (grown_trans G2.out G3.out))
  have V0 := hid (X0.out.on GG.out (fun e => by simp only [Option.some.injEq] at e; omega))
  have V1 := hid (X1.out.on GG.out (fun e => by simp only [Option.some.injEq] at e; omega))
  have VA := hid (A0.out.on GG.out (fun e => by simp only [Option.some.injEq] at e; omega))
  have v0 : w3.cell? ⟨w.heap.size, 1, none⟩ = some (.slice (some ⟨ab, 0, none⟩) 1 1) := by simpa using V0.out.cell 1
  have va : w3.cell? ⟨ab, 0, none⟩ = some (.int .u32 bl) := by simpa using VA.out.cell 0
  have KK := hid ((Kpt.of (T := HT h mb cv) b0.out).trans (Kpt.gr GG.out (by omega) fun k e => by simp only [Option.some.injEq] at e; exact .inl (.inl e.symm)))
  clear G1 G2 G3 GG X0 X1 A0 b0 hx f2 V0 VA hz0 hz1 hz2
  by_cases hz : bl = 0
  · subst hz
    go_wp2_with fail
    refine (value72 _ _).mono ?_
    rintro e w4 ⟨rfl, hb4⟩
    have W1 := V1.out.below hb4
    have q0 : w4.cell? ⟨w.heap.size + 1, 0, none⟩ = some (.int .u32 0) := by simpa using W1.cell 0
    have q1 : w4.cell? ⟨w.heap.size + 1, 1, none⟩ = some (.slice none 0 0) := by simpa using W1.cell 1
    have f0 := W1.free 0
    have f1 := W1.free 1
    have hz4 : w.heap.size + 1 < w4.heap.size := W1.lt
    have F := hid ((W1.set 0 (.int .u32 (s3 / 4294967296 % 4294967296))).set 1 (.slice none 0 0))
    have K4 := hid (KK.out.trans (Kpt.of (hb4.mono KK.out.size)))
    clear W1 hb4 KK V1 v0 va c2
    go_wp2_with fail
    refine bodyPost_ret (v := .agg #[.int .u32 (s3 / 4294967296 % 4294967296), .slice none 0 0]) (results_cell_row rfl _ _ (w.heap.size + 1) _ _ _ _ rfl F.out Tryz.underlying30 rfl (by kernel_rfl)) rfl ?_
    refine ⟨_, none, 0, 0, rfl, K4.out.trans (Kpt.gr (set30 _ _ _ _) (by omega) fun b e => by simp only [Option.some.injEq] at e; exact .inr (by omega)), rfl, by omega, fun h9 => absurd h9 (by omega)⟩
  · have hq : (bl = 0) = False := eq_false hz
    have hq2 : (bl == 0) = false := by simp [hz]
    have hq3 : (bl != 0) = true := by simp [hz]
    have hm := hid (show 0 ≤ s3 / 4294967296 % 4294967296 % bl ∧ s3 / 4294967296 % 4294967296 % bl < bl from ⟨Int.emod_nonneg _ hz, Int.emod_lt_of_pos _ (by omega)⟩)
    clear hz
    go_wp2_with fail
    refine (value72 _ _).mono ?_
    rintro e w4 ⟨rfl, hb4⟩
    have W1 := V1.out.below hb4
    have q0 : w4.cell? ⟨w.heap.size + 1, 0, none⟩ = some (.int .u32 0) := by simpa using W1.cell 0
    have q1 : w4.cell? ⟨w.heap.size + 1, 1, none⟩ = some (.slice none 0 0) := by simpa using W1.cell 1
    have f0 := W1.free 0
    have f1 := W1.free 1
    have hz4 : w.heap.size + 1 < w4.heap.size := W1.lt
    have F := hid ((W1.set 0 (.int .u32 (s3 / 4294967296 % 4294967296 % bl))).set 1 (.slice none 0 0))
    have K4 := hid (KK.out.trans (Kpt.of (hb4.mono KK.out.size)))
    clear W1 hb4 KK V1 v0 va c2
    go_wp2_with fail
    refine bodyPost_ret (v := .agg #[.int .u32 (s3 / 4294967296 % 4294967296 % bl), .slice none 0 0]) (results_cell_row rfl _ _ (w.heap.size + 1) _ _ _ _ rfl F.out Tryz.underlying30 rfl (by kernel_rfl)) rfl ?_
    refine ⟨_, none, 0, 0, rfl, K4.out.trans (Kpt.gr (set30 _ _ _ _) (by omega) fun b e => by simp only [Option.some.injEq] at e; exact .inr (by omega)), rfl, hm.out.1, fun _ => hm.out.2⟩

end Go.Proofs.YtmjholcpajfldaaGreatDoor
