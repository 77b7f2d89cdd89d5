/- Walks: Answer, whatever the call does. No condition. -/
import Derived.Outline
import Derived.Deep.RegionHeld3
import Derived.Test.YtmjholcpajfldaaGreatDoorHostG
namespace Go.Proofs.YtmjholcpajfldaaGreatDoor
open Go.RowKit
set_option linter.unusedVariables false
set_option linter.unusedSimpArgs false

set_option maxRecDepth 100000

theorem agg70 (w : World) : (isAgg 70).run Tryz.prog w = .ok false w := by
  unfold isAgg
  rw [Sem.run_bind, run_underlying Tryz.underlying70 w]
  rfl
theorem size70 (w : World) : (sizeOf 70).run Tryz.prog w = .ok 1 w := by
  have h : (Tryz.prog.info? 70).map (·.size) = some 1 := by kernel_rfl
  cases hq : Tryz.prog.info? 70 with
  | none => simp [hq] at h
  | some i =>
    have : i.size = 1 := by simpa [hq] using h
    simp [sizeOf, typeInfo, hq, this]
theorem run_calls (p : Value) (k : Nat) (hk : k < 24) (kd : IntKind) (w : World) : (Instr.index 71 (.agg (callsV p).toArray) (.int kd (k : Int))).run Tryz.prog w = .ok (.func (.func (37 + k)) #[p] #[]) w := by
  have hx : (callsV p).toArray[k]? = some (.func (.func (37 + k)) #[p] #[]) := by simpa using callsV_at p k hk
  have h1 : (0 : Int) ≤ k ∧ (k : Int) < ((24 : Nat) : Int) := by omega
  unfold Instr.index
  simp only [asIntOf, Sem.run_bind, Sem.run_pure, Result.andThen_ok, run_underlying Tryz.underlying71, h1, and_self, if_true, Int.toNat_natCast, size70, part, agg70]
  simp [hx]
theorem Me.base {w : World} {q B B' : Nat} {l : List UInt8} (h : Me w q B l) (hb : B' ≤ B) : Me w q B' l := by
  obtain ⟨mv, h1, h2⟩ := h.row
  exact ⟨⟨mv, h1, own_base h2 hb⟩, h.len, by have := h.lo; omega⟩
/-- what a call gives: a reply; what becomes of the world -/
def Does (T : Nat → Prop) (R : Int → Value → World → Prop) (w : World) (e : Ending) (w' : World) : Prop :=
  ∃ v ao n c, e = .returned (.agg #[.int .u32 v, .slice ao n c]) ∧ Kpt T w.heap.size w w' ∧ R v (.slice ao n c) w'
set_option maxHeartbeats 16000000 in
theorem answer9 (B h mb : Nat) (cv : Value) (con : List UInt8) (vs : List (ByteArray × Value)) (sd ck : Int) (k : Nat) (hk : k < 24) (x : Int) (hx : x = 16 + k) (aa : Option Addr) (n c : Nat) (hn : ((n : Int) != ar k) = false)
    (db : Nat) (l : List UInt8) (hl : l.length = 256) (w : World) (hb : Bx w db (bv l).toArray 5) (hH : Ho w B h cv con mb vs sd ck) (R : Int → Value → World → Prop) (he : ∀ args w, (callFunc (37 + k) args).run Tryz.prog w = .ok (.enter (37 + k) args) w)
    (hf : ∀ w1 q, Below w.heap.size w w1 → Me w1 q w.heap.size l → q < w1.heap.size → Calls Tryz.prog (37 + k) #[.pointer (some ⟨h, 0, none⟩), .agg #[.pointer (some ⟨q, 0, none⟩), .slice aa n c]] w1 (Does (HT h mb cv) R w1))
    (hR : ∀ v r w2 w3 q a b, w.heap.size ≤ q → Bx w2 q #[a, b] 30 → w2.grownBy w3 (some q) → R v r w2 → R v r w3) :
    Calls Tryz.prog 9 #[.pointer (some ⟨h, 0, none⟩), .slice (some ⟨db, 0, none⟩) 256 256, .agg #[.int .u32 0, .int .u32 x, .slice aa n c, .int .u32 0]] w fun e w' =>
      ∃ v ao m cp, e = .returned (.tuple #[.agg #[.int .u32 v, .slice ao m cp], .int .i64 0]) ∧ Kpt (HT h mb cv) w.heap.size w w' ∧ R v (.slice ao m cp) w' := by
  have h4 : IntKind.u32.wrap (x - 16) = k := by rw [IntKind.wrap_u32]; omega
  have hk23 := hid (fun w => known23 k hk x hx w)
  have HR := hid hR
  have HF := hid hf
  have hlt := hid (fun b hb => (hH.hlt b hb).2)
  have hrc := hid (run_calls (.pointer (some ⟨h, 0, none⟩)) k hk .u32)
  have hrm := hid (made21 (hH.below ((((Below.refl w.heap.size w).alloc (Nat.le_refl _) (.cells #[.int .u32 0, .int .u32 x, .slice aa n c, .int .u32 0] 36))).alloc (by simp) (.cells #[.int .u32 0, .slice none 0 0] 30))))
  have b0 := hid (((Below.refl w.heap.size w).alloc (Nat.le_refl _) (.cells #[.int .u32 0, .int .u32 x, .slice aa n c, .int .u32 0] 36)).alloc (by simp) (.cells #[.int .u32 0, .slice none 0 0] 30))
  have X0 := hid ((Bx.new w #[.int .u32 0, .int .u32 x, .slice aa n c, .int .u32 0] 36).below ((Below.refl _ _).alloc (Nat.le_refl _) (.cells #[.int .u32 0, .slice none 0 0] 30)))
  have X1 : Hid (Bx ((w.alloc (.cells #[.int .u32 0, .int .u32 x, .slice aa n c, .int .u32 0] 36)).alloc (.cells #[.int .u32 0, .slice none 0 0] 30)) (w.heap.size + 1) #[.int .u32 0, .slice none 0 0] 30) := hid (by simpa using Bx.new (w.alloc (.cells #[.int .u32 0, .int .u32 x, .slice aa n c, .int .u32 0] 36)) #[.int .u32 0, .slice none 0 0] 30)
  have hdb := hid (hb.below b0.out)
  clear hR hf hH hx hb
  go_enter Tryz.func9, Tryz.ntmps9
  generalize hw0 : (w.alloc (.cells #[.int .u32 0, .int .u32 x, .slice aa n c, .int .u32 0] 36)).alloc (.cells #[.int .u32 0, .slice none 0 0] 30) = w0 at *
  go_wp2_with (go_at_call 21; refine hrm.out.mono ?_; rintro e w1 ⟨rfl, rfl⟩)
  have hs0 : w0.heap.size = w.heap.size + 2 := by rw [← hw0]; simp
  clear hw0 hrm
  refine (from22 db l hl w0 hdb.out).mono ?_
  rintro e w1 ⟨q, rfl, hM, hq, hb1⟩
  have M1 := hid (hM.base (show w.heap.size ≤ w0.heap.size by omega))
  have B1 := hid (b0.out.trans (hb1.mono b0.out.size))
  have Y0 := hid (X0.out.below hb1)
  have Y1 := hid (X1.out.below hb1)
  have z1 : w1.cell? ⟨w.heap.size, 1, none⟩ = some (.int .u32 x) := by simpa using Y0.out.cell 1
  have hqs := hid (show w.heap.size ≤ q from by have := hM.lo; omega)
  clear hM hb1 X0 X1 b0 hdb
  go_wp2_with fail
  refine (hk23.out _).mono ?_
  rintro e w2 ⟨rfl, hg2⟩
  have hb2 := below_of_grown hg2
  have M2 := hid (M1.out.below hb2)
  have B2 := hid (B1.out.trans (hb2.mono B1.out.size))
  have Z0 := hid (Y0.out.below hb2)
  have Z1 := hid (Y1.out.below hb2)
  have hq2 : q < w2.heap.size := by have := hb2.size; omega
  clear hg2 hb2 hk23 M1 Y0 Y1 z1 B1 hq hs0
  have hbn := hid ((Below.refl w2.heap.size w2).alloc (Nat.le_refl _) (.cells #[.string (nm k), .int .i64 (ar k)] 67))
  have M3 := hid (M2.out.below hbn.out)
  have B3 := hid (B2.out.trans (hbn.out.mono B2.out.size))
  have Z3 := hid (Z0.out.below hbn.out)
  have Z4 := hid (Z1.out.below hbn.out)
  have Z5 := hid (Bx.new w2 #[.string (nm k), .int .i64 (ar k)] 67)
  have hq3 : q < (w2.alloc (.cells #[.string (nm k), .int .i64 (ar k)] 67)).heap.size := by simp; omega
  generalize hw3 : w2.alloc (.cells #[.string (nm k), .int .i64 (ar k)] 67) = w3 at *
  have z2 : w3.cell? ⟨w.heap.size, 2, none⟩ = some (.slice aa n c) := by simpa using Z3.out.cell 2
  have z3 : w3.cell? ⟨w2.heap.size, 1, none⟩ = some (.int .i64 (ar k)) := by simpa using Z5.out.cell 1
  have z1 : w3.cell? ⟨w.heap.size, 1, none⟩ = some (.int .u32 x) := by simpa using Z3.out.cell 1
  clear M2 B2 Z0 Z1 Z5 hq2
  have bd := hid (Below.refl w3.heap.size w3).drew
  have M4 := hid (M3.out.below bd.out)
  have B4 := hid (B3.out.trans (bd.out.mono B3.out.size))
  have Z6 := hid (Z3.out.below bd.out)
  have Z7 := hid (Z4.out.below bd.out)
  have hq4 : q < w3.drew.heap.size := hq3
  go_wp2_with fail
  refine wp_region_held_drew (S := (fun w9 => Bx w9 w.heap.size #[.int .u32 0, .int .u32 x, .slice aa n c, .int .u32 0] 36 ∧ ∃ a b, Bx w9 (w.heap.size + 1) #[a, b] 30)) (by kernel_rfl) ⟨Z6.out, _, _, Z7.out⟩ (fun hHeld => ?_)
  clear M3 B3 Z3 Z4 hq3 z1 z2 bd hw3 hbn
  generalize w3.drew = w4 at *
  refine wpAnyH_take (i := 0) (v := ?_) (by simp only [List.getElem?_toArray, List.getElem?_cons_succ, List.getElem?_cons_zero]; rfl) (by kernel_rfl) (by kernel_rfl) (by kernel_rfl) (by intro _ _ _ h; exact h) (Or.inl ⟨by rfl, ?_⟩) (by assumption) ?_
  rotate_left
  · intro w' hSw; go_simp; (try with_reducible rfl)
  try simp only [Act.put, List.setIfInBounds_toArray, List.set_cons_zero, List.set_cons_succ]
  refine wpAnyH_take (i := 2) (v := ?_) (by simp only [List.getElem?_toArray, List.getElem?_cons_succ, List.getElem?_cons_zero]; rfl) (by kernel_rfl) (by kernel_rfl) (by kernel_rfl) (by intro _ _ _ h; exact h) (Or.inl ⟨by rfl, ?_⟩) (by assumption) ?_
  rotate_left
  · intro w' hSw; go_simp; (try with_reducible rfl)
  try simp only [Act.put, List.setIfInBounds_toArray, List.set_cons_zero, List.set_cons_succ]
  refine wpAnyH_take (i := 3) (v := ?_) (by simp only [List.getElem?_toArray, List.getElem?_cons_succ, List.getElem?_cons_zero]; rfl) (by kernel_rfl) (by kernel_rfl) (by kernel_rfl) (by intro _ _ _ h; exact h) (Or.inl ⟨by rfl, ?_⟩) (by assumption) ?_
  rotate_left
  · intro w' hSw; have q1 := hSw.1.cell 1; simp at q1; go_simp; (try with_reducible rfl)
  try simp only [Act.put, List.setIfInBounds_toArray, List.set_cons_zero, List.set_cons_succ]
  refine wpAnyH_take (i := 4) (v := ?_) (by simp only [List.getElem?_toArray, List.getElem?_cons_succ, List.getElem?_cons_zero]; rfl) (by kernel_rfl) (by kernel_rfl) (by kernel_rfl) (by intro _ _ _ h; exact h) (Or.inl ⟨by rfl, ?_⟩) (by assumption) ?_
  rotate_left
  · intro w' hSw; go_simp; (try with_reducible rfl)
  try simp only [Act.put, List.setIfInBounds_toArray, List.set_cons_zero, List.set_cons_succ]
  refine wpAnyH_take (i := 6) (v := ?_) (by simp only [List.getElem?_toArray, List.getElem?_cons_succ, List.getElem?_cons_zero]; rfl) (by kernel_rfl) (by kernel_rfl) (by kernel_rfl) (by intro _ _ _ h; exact h) (Or.inl ⟨by rfl, ?_⟩) (by assumption) ?_
  rotate_left
  · intro w' hSw; go_simp; (try with_reducible rfl)
  try simp only [Act.put, List.setIfInBounds_toArray, List.set_cons_zero, List.set_cons_succ]
  refine wpAnyH_take (i := 7) (v := ?_) (by simp only [List.getElem?_toArray, List.getElem?_cons_succ, List.getElem?_cons_zero]; rfl) (by kernel_rfl) (by kernel_rfl) (by kernel_rfl) (by intro _ _ _ h; exact h) (Or.inl ⟨by rfl, ?_⟩) (by assumption) ?_
  rotate_left
  · intro w' hSw; go_simp; (try with_reducible rfl)
  try simp only [Act.put, List.setIfInBounds_toArray, List.set_cons_zero, List.set_cons_succ]
  refine wpAnyH_take (i := 8) (v := ?_) (by simp only [List.getElem?_toArray, List.getElem?_cons_succ, List.getElem?_cons_zero]; rfl) (by kernel_rfl) (by kernel_rfl) (by kernel_rfl) (by intro _ _ _ h; exact h) (Or.inl ⟨by rfl, ?_⟩) (by assumption) ?_
  rotate_left
  · intro w' hSw; have q1 := hSw.1.cell 2; simp at q1; go_simp; (try with_reducible rfl)
  try simp only [Act.put, List.setIfInBounds_toArray, List.set_cons_zero, List.set_cons_succ]
  refine wpAnyH_take (i := 9) (v := ?_) (by simp only [List.getElem?_toArray, List.getElem?_cons_succ, List.getElem?_cons_zero]; rfl) (by kernel_rfl) (by kernel_rfl) (by kernel_rfl) (by intro _ _ _ h; exact h) (Or.inl ⟨by rfl, ?_⟩) (by assumption) ?_
  rotate_left
  · intro w' hSw; go_simp; (try with_reducible rfl)
  try simp only [Act.put, List.setIfInBounds_toArray, List.set_cons_zero, List.set_cons_succ]
  refine wpAnyH_ready (rs := [1]) (by kernel_rfl) (by simp) ?_
  refine AllReadyH.cons (by simp only [List.getElem?_toArray, List.getElem?_cons_succ, List.getElem?_cons_zero]; rfl) (fun K hK => ?_) AllReadyH.nil
  go_simp
  go_at_call 24
  refine (calls24 h w4).mono ?_
  rintro e w2 ⟨rfl, hb5⟩
  have hk := (show (fun w9 => Bx w9 w.heap.size #[.int .u32 0, .int .u32 x, .slice aa n c, .int .u32 0] 36 ∧ ∃ a b, Bx w9 (w.heap.size + 1) #[a, b] 30) w2 from ⟨hHeld.1.below hb5, (let ⟨a, b, h9⟩ := hHeld.2; ⟨a, b, h9.below hb5⟩)⟩)
  have M5 := hid (M4.out.below hb5)
  have B5 := hid (B4.out.trans (hb5.mono B4.out.size))
  have hq5 : q < w2.heap.size := by have := hb5.size; omega
  clear hHeld
  go_wp2_with fail
  refine hK.out _ _ hk (fun hHeld => ?_)
  clear hK K hk
  try simp only [Act.put, List.setIfInBounds_toArray, List.set_cons_zero, List.set_cons_succ]
  refine wpAnyH_take (i := 5) (v := ?_) (by simp only [List.getElem?_toArray, List.getElem?_cons_succ, List.getElem?_cons_zero]; rfl) (by kernel_rfl) (by kernel_rfl) (by kernel_rfl) (by intro _ _ _ h; exact h) (Or.inl ⟨by rfl, ?_⟩) (by assumption) ?_
  rotate_left
  · intro w' hSw; have q1 := hrc.out w'; go_simp; (try with_reducible rfl)
  try simp only [Act.put, List.setIfInBounds_toArray, List.set_cons_zero, List.set_cons_succ]
  refine wpAnyH_ready (rs := [10]) (by kernel_rfl) (by simp) ?_
  refine AllReadyH.cons (by simp only [List.getElem?_toArray, List.getElem?_cons_succ, List.getElem?_cons_zero]; rfl) (fun K hK => ?_) AllReadyH.nil
  go_simp
  refine (HF.out w2 q B5.out M5.out hq5).mono ?_
  rintro e w6 ⟨v, ao, m, cp, rfl, hK6, hR6⟩
  have N6 : ∀ b, w.heap.size ≤ b → ¬ HT h mb cv b := fun b h8 h9 => by have := hlt.out b h9; omega
  have bz := B5.out.size
  obtain ⟨a7, b7, h7⟩ := hHeld.2
  have b8 := h7.lt
  have V0 : Bx w6 w.heap.size #[.int .u32 0, .int .u32 x, .slice aa n c, .int .u32 0] 36 := hK6.box hHeld.1 hHeld.1.lt (N6 _ (Nat.le_refl _))
  have V1 : Bx w6 (w.heap.size + 1) #[a7, b7] 30 := hK6.box h7 b8 (N6 _ (by omega))
  have hk : (fun w9 => Bx w9 w.heap.size #[.int .u32 0, .int .u32 x, .slice aa n c, .int .u32 0] 36 ∧ ∃ a b, Bx w9 (w.heap.size + 1) #[a, b] 30) w6 := ⟨V0, _, _, V1⟩
  have K6 := hid ((Kpt.of (T := HT h mb cv) B5.out).trans (hK6.mono B5.out.size (fun b _ h9 => h9)))
  have R6 := hid hR6
  have W1 := hid V1
  have hsz : w.heap.size + 1 < w6.heap.size := V1.lt
  clear hK6 hR6 hHeld N6 h7 V0 b8 B5 M5 hq5 HF
  go_wp2_with fail
  refine hK.out _ _ hk (fun hHeld => ?_)
  clear hK K hk
  try simp only [Act.put, List.setIfInBounds_toArray, List.set_cons_zero, List.set_cons_succ]
  have x0 : w6.cell? ⟨w.heap.size + 1, 0, none⟩ = some a7 := by simpa using V1.cell 0
  have x1 : w6.cell? ⟨w.heap.size + 1, 1, none⟩ = some b7 := by simpa using V1.cell 1
  have y0 := V1.free 0
  have y1 := V1.free 1
  have hk2 : (fun w9 => Bx w9 w.heap.size #[.int .u32 0, .int .u32 x, .slice aa n c, .int .u32 0] 36 ∧ ∃ a b, Bx w9 (w.heap.size + 1) #[a, b] 30) ((w6.setCell ⟨w.heap.size + 1, 0, none⟩ (.int .u32 v)).setCell ⟨w.heap.size + 1, 1, none⟩ (.slice ao m cp)) := ⟨hHeld.1.on (set30 _ _ _ _) (by simp), .int .u32 v, _, (V1.set 0 (.int .u32 v)).set 1 (.slice ao m cp)⟩
  have HK2 := hid hk2
  clear hk2 hHeld V1
  refine wpAnyH_ready (rs := [11]) (by kernel_rfl) (by simp) ?_
  refine AllReadyH.cons (by simp only [List.getElem?_toArray, List.getElem?_cons_succ, List.getElem?_cons_zero]; rfl) (fun K hK => ?_) AllReadyH.nil
  go_wp2_with fail
  refine hK.out _ _ HK2.out (fun hHeld => ?_)
  clear hK K
  try simp only [Act.put, List.setIfInBounds_toArray, List.set_cons_zero, List.set_cons_succ]
  refine wpAnyH_take (i := 12) (v := ?_) (by simp only [List.getElem?_toArray, List.getElem?_cons_succ, List.getElem?_cons_zero]; rfl) (by kernel_rfl) (by kernel_rfl) (by kernel_rfl) (by intro _ _ _ h; exact h) (Or.inl ⟨by rfl, ?_⟩) (by assumption) ?_
  rotate_left
  · intro w' hSw; go_simp; (try with_reducible rfl)
  try simp only [Act.put, List.setIfInBounds_toArray, List.set_cons_zero, List.set_cons_succ]
  refine wpAnyH_done (by kernel_rfl) ?_ _
  have F := hid ((W1.out.set 0 (.int .u32 v)).set 1 (.slice ao m cp))
  clear hHeld
  go_wp2_with fail
  refine bodyPost_ret (v := .tuple #[.agg #[.int .u32 v, .slice ao m cp], .int .i64 0]) ?_ rfl ?_
  · rw [results_cell_tmp rfl]
    have hload := run_loadVar_row (P := Tryz.prog) _ (w.heap.size + 1) 30 30 _ (0, 0) _ F.out Tryz.underlying30 rfl (by kernel_rfl)
    simp [asAddr, Result.andThen, hload]
  · exact ⟨v, ao, m, cp, rfl, K6.out.trans (Kpt.gr (set30 _ _ _ _) (by omega) fun b e => by simp only [Option.some.injEq] at e; exact .inr (by omega)), HR.out _ _ _ _ _ _ _ (by omega) W1.out (set30 _ _ _ _) R6.out⟩
end Go.Proofs.YtmjholcpajfldaaGreatDoor
