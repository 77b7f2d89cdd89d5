/- Walks: the call print at a plain text. No condition. -/
import Derived.Test.YtmjholcpajfldaaGreatDoorHostPd
import Derived.Test.YtmjholcpajfldaaGreatDoorHostQ
namespace Go.Proofs.YtmjholcpajfldaaGreatDoor
open Go.RowKit
set_option linter.unusedVariables false
set_option linter.unusedSimpArgs false

set_option maxRecDepth 100000

/-- what print does with a plain text -/
def PrintR (B h mb : Nat) (cv : Value) (con : List UInt8) (vs : List (ByteArray × Value)) (sd ck : Int) (s : ByteArray) (v : Int) (r : Value) (w' : World) : Prop :=
  r = .slice none 0 0 ∧ if con.length + s.size ≤ 4096 then v = s.size ∧ ∃ cv', Ho w' B h cv' (con ++ s.data.toList) mb vs sd ck else v = 4294967295 ∧ Ho w' B h cv con mb vs sd ck
set_option maxHeartbeats 16000000 in
theorem print37 {w : World} {B h mb : Nat} {cv : Value} {con : List UInt8} {vs : List (ByteArray × Value)} {sd ck : Int} (hH : Ho w B h cv con mb vs sd ck) (q Bm ab : Nat) (l : List UInt8) (hM : Me w q Bm l) (ha : Bx w ab #[.int .u32 0] 23) (habx : ¬ HT h mb cv ab)
    (s : ByteArray) (hs : (⟨(txt l).toArray⟩ : ByteArray) = s) (f : Nat → PC) (hf : ∀ i (h : i < s.size), (f i).1 = (i, s[i])) (h1 : 1 ≤ s.size) (h2 : s.size ≤ 64) :
    Calls Tryz.prog 37 #[.pointer (some ⟨h, 0, none⟩), .agg #[.pointer (some ⟨q, 0, none⟩), .slice (some ⟨ab, 0, none⟩) 1 1]] w (Does (HT h mb cv) (PrintR B h mb cv con vs sd ck s) w) := by
  have hab := hid habx
  have hgs := hid (fun (w1 : World) (g cap : Nat) (hb : By w1 (some ⟨g, 0, none⟩) s.data.toList) => guest67 (some ⟨g, 0, none⟩) cap s f hf h1 h2 w1 hb)
  have hsz := hid h2
  have hS := hid hs
  clear habx hf h1 h2 hs
  have b0 := hid (((Below.refl w.heap.size w).alloc (Nat.le_refl _) (.cells #[.pointer (some ⟨q, 0, none⟩), .slice (some ⟨ab, 0, none⟩) 1 1] 74)).alloc (by simp) (.cells #[.int .u32 0, .slice none 0 0] 30))
  have X0 := hid ((Bx.new w #[.pointer (some ⟨q, 0, none⟩), .slice (some ⟨ab, 0, none⟩) 1 1] 74).below ((Below.refl _ _).alloc (Nat.le_refl _) (.cells #[.int .u32 0, .slice none 0 0] 30)))
  have X1 : Hid (Bx ((w.alloc (.cells #[.pointer (some ⟨q, 0, none⟩), .slice (some ⟨ab, 0, none⟩) 1 1] 74)).alloc (.cells #[.int .u32 0, .slice none 0 0] 30)) (w.heap.size + 1) #[.int .u32 0, .slice none 0 0] 30) := hid (by simpa using Bx.new (w.alloc (.cells #[.pointer (some ⟨q, 0, none⟩), .slice (some ⟨ab, 0, none⟩) 1 1] 74)) #[.int .u32 0, .slice none 0 0] 30)
  have H0 := hid (hH.below b0.out)
  have A0 := hid (ha.below b0.out)
  have M0 := hid (hM.below b0.out)
  have hlt := hid (fun b hb => (hH.hlt b hb).2)
  have hs0 : ((w.alloc (.cells #[.pointer (some ⟨q, 0, none⟩), .slice (some ⟨ab, 0, none⟩) 1 1] 74)).alloc (.cells #[.int .u32 0, .slice none 0 0] 30)).heap.size = w.heap.size + 2 := by simp
  clear hH ha hM
  go_enter Tryz.func37, Tryz.ntmps37
  generalize hw0 : (w.alloc (.cells #[.pointer (some ⟨q, 0, none⟩), .slice (some ⟨ab, 0, none⟩) 1 1] 74)).alloc (.cells #[.int .u32 0, .slice none 0 0] 30) = w0 at *
  go_wp2_with fail
  clear hw0
  have bd := (Below.refl w0.heap.size w0).drew
  have B1 := hid (b0.out.trans (bd.mono b0.out.size))
  have Y0 := hid (X0.out.below bd)
  have Y1 := hid (X1.out.below bd)
  have A1 := hid (A0.out.below bd)
  have M1 := hid (M0.out.below bd)
  have H1 := hid (H0.out.below bd)
  have hs1 : w0.drew.heap.size = w.heap.size + 2 := hs0
  refine wp_region_held_drew (S := (fun w9 => Bx w9 w.heap.size #[.pointer (some ⟨q, 0, none⟩), .slice (some ⟨ab, 0, none⟩) 1 1] 74 ∧ Bx w9 ab #[.int .u32 0] 23)) (by kernel_rfl) ⟨Y0.out, A1.out⟩ (fun hHeld => ?_)
  clear b0 X0 X1 H0 A0 M0 bd hs0
  generalize w0.drew = w1 at *
  refine wpAnyH_take (i := 0) (v := ?_) (by simp only [List.getElem?_toArray, List.getElem?_cons_succ, List.getElem?_cons_zero]; rfl) (by kernel_rfl) (by kernel_rfl) (by kernel_rfl) (by intro _ _ _ h; exact h) (Or.inl ⟨by rfl, ?_⟩) (by assumption) ?_
  rotate_left
  · intro w' hSw; go_simp; (try with_reducible rfl)
  try simp only [Act.put, List.setIfInBounds_toArray, List.set_cons_zero, List.set_cons_succ]
  refine wpAnyH_take (i := 1) (v := ?_) (by simp only [List.getElem?_toArray, List.getElem?_cons_succ, List.getElem?_cons_zero]; rfl) (by kernel_rfl) (by kernel_rfl) (by kernel_rfl) (by intro _ _ _ h; exact h) (Or.inl ⟨by rfl, ?_⟩) (by assumption) ?_
  rotate_left
  · intro w' hSw; have q0 := hSw.1.cell 0; have q1 := hSw.1.cell 1; simp at q0 q1; go_simp; (try with_reducible rfl)
  try simp only [Act.put, List.setIfInBounds_toArray, List.set_cons_zero, List.set_cons_succ]
  refine wpAnyH_take (i := 2) (v := ?_) (by simp only [List.getElem?_toArray, List.getElem?_cons_succ, List.getElem?_cons_zero]; rfl) (by kernel_rfl) (by kernel_rfl) (by kernel_rfl) (by intro _ _ _ h; exact h) (Or.inl ⟨by rfl, ?_⟩) (by assumption) ?_
  rotate_left
  · intro w' hSw; go_simp; (try with_reducible rfl)
  try simp only [Act.put, List.setIfInBounds_toArray, List.set_cons_zero, List.set_cons_succ]
  refine wpAnyH_take (i := 3) (v := ?_) (by simp only [List.getElem?_toArray, List.getElem?_cons_succ, List.getElem?_cons_zero]; rfl) (by kernel_rfl) (by kernel_rfl) (by kernel_rfl) (by intro _ _ _ h; exact h) (Or.inl ⟨by rfl, ?_⟩) (by assumption) ?_
  rotate_left
  · intro w' hSw; have q0 := hSw.1.cell 0; have q1 := hSw.1.cell 1; simp at q0 q1; go_simp; (try with_reducible rfl)
  try simp only [Act.put, List.setIfInBounds_toArray, List.set_cons_zero, List.set_cons_succ]
  refine wpAnyH_take (i := 4) (v := ?_) (by simp only [List.getElem?_toArray, List.getElem?_cons_succ, List.getElem?_cons_zero]; rfl) (by kernel_rfl) (by kernel_rfl) (by kernel_rfl) (by intro _ _ _ h; exact h) (Or.inl ⟨by rfl, ?_⟩) (by assumption) ?_
  rotate_left
  · intro w' hSw; go_simp; (try with_reducible rfl)
  try simp only [Act.put, List.setIfInBounds_toArray, List.set_cons_zero, List.set_cons_succ]
  refine wpAnyH_take (i := 5) (v := ?_) (by simp only [List.getElem?_toArray, List.getElem?_cons_succ, List.getElem?_cons_zero]; rfl) (by kernel_rfl) (by kernel_rfl) (by kernel_rfl) (by intro _ _ _ h; exact h) (Or.inl ⟨by rfl, ?_⟩) (by assumption) ?_
  rotate_left
  · intro w' hSw; have q1 := hSw.2.cell 0; simp at q1; go_simp; (try with_reducible rfl)
  try simp only [Act.put, List.setIfInBounds_toArray, List.set_cons_zero, List.set_cons_succ]
  have t68 := text68 M1.out (.slice (some ⟨ab, 0, none⟩) 1 1) ⟨_, _, _, rfl⟩
  rw [hS.out] at t68
  have T68 := hid t68
  clear t68
  refine wpAnyH_ready (rs := [6]) (by kernel_rfl) (by simp) ?_
  refine AllReadyH.cons (by simp only [List.getElem?_toArray, List.getElem?_cons_succ, List.getElem?_cons_zero]; rfl) (fun K hK => ?_) AllReadyH.nil
  go_simp
  go_at_call 68
  refine (T68.out).mono ?_
  rintro e w2 ⟨rfl, hb5⟩
  have hk := (show (fun w9 => Bx w9 w.heap.size #[.pointer (some ⟨q, 0, none⟩), .slice (some ⟨ab, 0, none⟩) 1 1] 74 ∧ Bx w9 ab #[.int .u32 0] 23) w2 from ⟨hHeld.1.below hb5, hHeld.2.below hb5⟩)
  have B2 := hid (B1.out.trans (hb5.mono B1.out.size))
  have H2 := hid (H1.out.below hb5)
  have Y2 := hid (Y1.out.below hb5)
  have Z2 := hid (hHeld.1.below hb5)
  have Z3 := hid (hHeld.2.below hb5)
  have hs2 : w.heap.size + 2 ≤ w2.heap.size := by have := hb5.size; omega
  clear hHeld
  go_wp2_with fail
  refine hK.out _ _ hk (fun hHeld => ?_)
  clear hK K hk
  try simp only [Act.put, List.setIfInBounds_toArray, List.set_cons_zero, List.set_cons_succ]
  clear B1 H1 Y1 Y0 A1 M1 hs1 T68 hHeld
  obtain ⟨w3, cp3, hcv, hb3, hc3⟩ := conv9 w2 s
  have B3 := hid (B2.out.trans (hb3.mono B2.out.size))
  have H3 := hid (H2.out.below hb3)
  have Y3 := hid (Y2.out.below hb3)
  have X3 := hid (Z2.out.below hb3)
  have X4 := hid (Z3.out.below hb3)
  have hs3 : w.heap.size + 2 ≤ w3.heap.size := by have := hb3.size; omega
  have hBy := hid (show By w3 (some ⟨w2.heap.size, 0, none⟩) s.data.toList from ⟨w2.heap.size, 0, .inr rfl, fun i hi => by rw [Nat.zero_add]; exact hc3 i hi⟩)
  clear hc3
  refine wpAnyH_ready (rs := [7]) (by kernel_rfl) (by simp) ?_
  refine AllReadyH.cons (by simp only [List.getElem?_toArray, List.getElem?_cons_succ, List.getElem?_cons_zero]; rfl) (fun K hK => ?_) AllReadyH.nil
  go_simp
  refine hK.out _ _ (show (fun w9 => Bx w9 w.heap.size #[.pointer (some ⟨q, 0, none⟩), .slice (some ⟨ab, 0, none⟩) 1 1] 74 ∧ Bx w9 ab #[.int .u32 0] 23) w3 from ⟨X3.out, X4.out⟩) (fun hHeld => ?_)
  clear hK K hcv B2 H2 Y2 Z2 Z3 hs2 hb3
  try simp only [Act.put, List.setIfInBounds_toArray, List.set_cons_zero, List.set_cons_succ]
  refine wpAnyH_ready (rs := [8]) (by kernel_rfl) (by simp) ?_
  refine AllReadyH.cons (by simp only [List.getElem?_toArray, List.getElem?_cons_succ, List.getElem?_cons_zero]; rfl) (fun K hK => ?_) AllReadyH.nil
  go_simp
  go_at_call 67
  refine (hgs.out w3 w2.heap.size cp3 hBy.out).mono ?_
  rintro e w4 ⟨rfl, hb6⟩
  have hk := (show (fun w9 => Bx w9 w.heap.size #[.pointer (some ⟨q, 0, none⟩), .slice (some ⟨ab, 0, none⟩) 1 1] 74 ∧ Bx w9 ab #[.int .u32 0] 23) w4 from ⟨hHeld.1.below hb6, hHeld.2.below hb6⟩)
  have B4 := hid (B3.out.trans (hb6.mono B3.out.size))
  have H4 := hid (H3.out.below hb6)
  have Y4 := hid (Y3.out.below hb6)
  have V3 := hid (X3.out.below hb6)
  have V4 := hid (X4.out.below hb6)
  have hs4 : w.heap.size + 2 ≤ w4.heap.size := by have := hb6.size; omega
  clear hgs hBy B3 H3 Y3 X3 X4 hs3 hb6
  clear hHeld
  go_wp2_with fail
  refine hK.out _ _ hk (fun hHeld => ?_)
  clear hK K hk
  try simp only [Act.put, List.setIfInBounds_toArray, List.set_cons_zero, List.set_cons_succ]
  have N6 := hid (fun b (h8 : w.heap.size ≤ b) => (fun h9 : HT h mb cv b => (by have := hlt.out b h9; omega : False)))
  have hhm := hid (show h < w.heap.size ∧ mb < w.heap.size from ⟨hlt.out h (.inl rfl), hlt.out mb (.inr (.inl rfl))⟩)
  have hcl := hid H4.out.cl
  clear hHeld
  by_cases hroom : con.length + s.size ≤ 4096
  · refine wpAnyH_ready (rs := [9]) (by kernel_rfl) (by simp) ?_
    refine AllReadyH.cons (by simp only [List.getElem?_toArray, List.getElem?_cons_succ, List.getElem?_cons_zero]; rfl) (fun K hK => ?_) AllReadyH.nil
    go_simp
    go_at_call 66
    refine (show66 H4.out s hroom).mono ?_
    rintro e w5 ⟨rfl, hk6, cv2, hh6⟩
    have hk := (show (fun w9 => Bx w9 w.heap.size #[.pointer (some ⟨q, 0, none⟩), .slice (some ⟨ab, 0, none⟩) 1 1] 74 ∧ Bx w9 ab #[.int .u32 0] 23) w5 from ⟨hk6.box V3.out V3.out.lt (N6.out _ (Nat.le_refl _)), hk6.box V4.out V4.out.lt hab.out⟩)
    have K5 := hid ((Kpt.of (T := HT h mb cv) B4.out).trans (hk6.mono B4.out.size (fun b _ h9 => h9)))
    have H5 := hid hh6
    have Y5 := hid (hk6.box Y4.out Y4.out.lt (N6.out _ (by omega)))
    have W3 := hid hk.1
    have W4 := hid hk.2
    have hab1 := hid (show ab ≠ w.heap.size + 1 from fun e => by have h7 := W4.out; have h8 := Y5.out; unfold Bx at h7 h8; rw [e, h8] at h7; simp at h7)
    clear hk6 hh6 B4 H4 Y4 V3 V4 hs4
    skip
    go_wp2_with fail
    refine hK.out _ _ hk (fun hHeld => ?_)
    clear hK K hk
    try simp only [Act.put, List.setIfInBounds_toArray, List.set_cons_zero, List.set_cons_succ]
    clear hHeld
    have q0 : w5.cell? ⟨w.heap.size + 1, 0, none⟩ = some (.int .u32 0) := by simpa using Y5.out.cell 0
    have q1 : w5.cell? ⟨w.heap.size + 1, 1, none⟩ = some (.slice none 0 0) := by simpa using Y5.out.cell 1
    have f0 := Y5.out.free 0
    have f1 := Y5.out.free 1
    have hz5 : w.heap.size + 1 < w5.heap.size := Y5.out.lt
    have F := hid ((Y5.out.set 0 (.int .u32 (s.size : Int))).set 1 (.slice none 0 0))
    have SG := hid (set30 w5 (w.heap.size + 1) (.int .u32 (s.size : Int)) (.slice none 0 0))
    refine wpAnyH_ready (rs := [10]) (by kernel_rfl) (by simp) ?_
    refine AllReadyH.cons (by simp only [List.getElem?_toArray, List.getElem?_cons_succ, List.getElem?_cons_zero]; rfl) (fun K hK => ?_) AllReadyH.nil
    go_simp
    refine hK.out _ _ (show (fun w9 => Bx w9 w.heap.size #[.pointer (some ⟨q, 0, none⟩), .slice (some ⟨ab, 0, none⟩) 1 1] 74 ∧ Bx w9 ab #[.int .u32 0] 23) _ from ⟨W3.out.on SG.out (fun e => by simp only [Option.some.injEq] at e; omega), W4.out.on SG.out (fun e => by simp only [Option.some.injEq] at e; exact hab1.out e)⟩) (fun hHeld => ?_)
    clear hK K hHeld
    try simp only [Act.put, List.setIfInBounds_toArray, List.set_cons_zero, List.set_cons_succ]
    refine wpAnyH_done (by kernel_rfl) ?_ _
    clear q0 q1 f0 f1 W3 W4
    go_wp2_with fail
    refine bodyPost_ret (v := .agg #[.int .u32 (s.size : Int), .slice none 0 0]) (results_cell_row rfl _ _ (w.heap.size + 1) _ _ _ _ rfl F.out Tryz.underlying30 rfl (by kernel_rfl)) rfl ?_
    refine ⟨_, none, 0, 0, rfl, K5.out.trans (Kpt.gr SG.out (by omega) fun b e => by simp only [Option.some.injEq] at e; exact .inr (by omega)), rfl, ?_⟩
    rw [if_pos hroom]
    have hob := row_ne_box H5.out.own Y5.out (by decide)
    exact ⟨rfl, cv2, Ho.off H5.out hhm.out.1 hhm.out.2 hob SG.out⟩
  · refine wpAnyH_ready (rs := [9]) (by kernel_rfl) (by simp) ?_
    refine AllReadyH.cons (by simp only [List.getElem?_toArray, List.getElem?_cons_succ, List.getElem?_cons_zero]; rfl) (fun K hK => ?_) AllReadyH.nil
    go_simp
    go_at_call 66
    refine (show66_no H4.out s (by omega) (by have := hsz.out; omega)).mono ?_
    rintro e w5 ⟨rfl, hb7⟩
    have hk := (show (fun w9 => Bx w9 w.heap.size #[.pointer (some ⟨q, 0, none⟩), .slice (some ⟨ab, 0, none⟩) 1 1] 74 ∧ Bx w9 ab #[.int .u32 0] 23) w5 from ⟨V3.out.below hb7, V4.out.below hb7⟩)
    have K5 := hid (Kpt.of (T := HT h mb cv) (B4.out.trans (hb7.mono B4.out.size)))
    have H5 := hid (H4.out.below hb7)
    have Y5 := hid (Y4.out.below hb7)
    have W3 := hid hk.1
    have W4 := hid hk.2
    have hab1 := hid (show ab ≠ w.heap.size + 1 from fun e => by have h7 := W4.out; have h8 := Y5.out; unfold Bx at h7 h8; rw [e, h8] at h7; simp at h7)
    clear hb7 B4 H4 Y4 V3 V4 hs4
    skip
    go_wp2_with fail
    refine hK.out _ _ hk (fun hHeld => ?_)
    clear hK K hk
    try simp only [Act.put, List.setIfInBounds_toArray, List.set_cons_zero, List.set_cons_succ]
    clear hHeld
    have q0 : w5.cell? ⟨w.heap.size + 1, 0, none⟩ = some (.int .u32 0) := by simpa using Y5.out.cell 0
    have q1 : w5.cell? ⟨w.heap.size + 1, 1, none⟩ = some (.slice none 0 0) := by simpa using Y5.out.cell 1
    have f0 := Y5.out.free 0
    have f1 := Y5.out.free 1
    have hz5 : w.heap.size + 1 < w5.heap.size := Y5.out.lt
    have F := hid ((Y5.out.set 0 (.int .u32 4294967295)).set 1 (.slice none 0 0))
    have SG := hid (set30 w5 (w.heap.size + 1) (.int .u32 4294967295) (.slice none 0 0))
    refine wpAnyH_ready (rs := [10]) (by kernel_rfl) (by simp) ?_
    refine AllReadyH.cons (by simp only [List.getElem?_toArray, List.getElem?_cons_succ, List.getElem?_cons_zero]; rfl) (fun K hK => ?_) AllReadyH.nil
    go_simp
    refine hK.out _ _ (show (fun w9 => Bx w9 w.heap.size #[.pointer (some ⟨q, 0, none⟩), .slice (some ⟨ab, 0, none⟩) 1 1] 74 ∧ Bx w9 ab #[.int .u32 0] 23) _ from ⟨W3.out.on SG.out (fun e => by simp only [Option.some.injEq] at e; omega), W4.out.on SG.out (fun e => by simp only [Option.some.injEq] at e; exact hab1.out e)⟩) (fun hHeld => ?_)
    clear hK K hHeld
    try simp only [Act.put, List.setIfInBounds_toArray, List.set_cons_zero, List.set_cons_succ]
    refine wpAnyH_done (by kernel_rfl) ?_ _
    clear q0 q1 f0 f1 W3 W4
    go_wp2_with fail
    refine bodyPost_ret (v := .agg #[.int .u32 4294967295, .slice none 0 0]) (results_cell_row rfl _ _ (w.heap.size + 1) _ _ _ _ rfl F.out Tryz.underlying30 rfl (by kernel_rfl)) rfl ?_
    refine ⟨_, none, 0, 0, rfl, K5.out.trans (Kpt.gr SG.out (by omega) fun b e => by simp only [Option.some.injEq] at e; exact .inr (by omega)), rfl, ?_⟩
    rw [if_neg hroom]
    have hob := row_ne_box H5.out.own Y5.out (by decide)
    exact ⟨rfl, Ho.off H5.out hhm.out.1 hhm.out.2 hob SG.out⟩

end Go.Proofs.YtmjholcpajfldaaGreatDoor
