/- Walks: the calls set, get, random. No condition. -/
import Derived.Outline
import Derived.Deep.RegionHeld3
import Derived.Test.YtmjholcpajfldaaGreatDoorHostP
namespace Go.Proofs.YtmjholcpajfldaaGreatDoor
open Go.RowKit
set_option linter.unusedVariables false
set_option linter.unusedSimpArgs false

set_option maxRecDepth 100000

theorem txt_size (l : List UInt8) : (txt l).length ≤ l.length := by unfold txt; exact (List.takeWhile_prefix _).length_le
/-- a name, as the memory has it -/
def nmOf (l : List UInt8) : ByteArray := ⟨(txt l).toArray⟩
theorem nmOf_size (l : List UInt8) (h : l.length = 256) : (nmOf l).size ≤ 1048576 := by
  have := txt_size l
  simp [nmOf, ByteArray.size]
  omega
/-- what set does: a name that may be, over a host without variables -/
def SetR (B h mb : Nat) (cv : Value) (con : List UInt8) (sd ck : Int) (s : ByteArray) (x : Int) (v : Int) (r : Value) (w' : World) : Prop :=
  r = .slice none 0 0 ∧ if nmB s then v = 1 ∧ Ho w' B h cv con mb [(s, .int .u32 x)] sd ck else v = 0 ∧ Ho w' B h cv con mb [] sd ck
theorem Ho.off {w w' : World} {B h mb : Nat} {cv : Value} {con : List UInt8} {vs : List (ByteArray × Value)} {sd ck : Int} (hH : Ho w B h cv con mb vs sd ck) {n : Nat} (h1 : h < n) (h2 : mb < n) (h3 : cv.ownBlock ≠ some (n + 1)) (hg : w.grownBy w' (some (n + 1))) : Ho w' B h cv con mb vs sd ck :=
  hH.kpt (T := fun b => b = n + 1) (Kpt.gr hg (Nat.le_refl _) fun k e => by simp only [Option.some.injEq] at e; exact .inl e.symm) fun b hb e => by
    rcases hb with hb | hb | hb
    · omega
    · omega
    · rw [e] at hb
      exact h3 hb
set_option maxHeartbeats 16000000 in
theorem set48 {w : World} {B h mb : Nat} {cv : Value} {con : List UInt8} {sd ck : Int} (hH : Ho w B h cv con mb [] sd ck) (q Bm ab : Nat) (l : List UInt8) (hM : Me w q Bm l) (x : Int) (ha : Bx w ab #[.int .u32 0, .int .u32 x] 23) (habx : ¬ HT h mb cv ab) :
    Calls Tryz.prog 48 #[.pointer (some ⟨h, 0, none⟩), .agg #[.pointer (some ⟨q, 0, none⟩), .slice (some ⟨ab, 0, none⟩) 2 2]] w (Does (HT h mb cv) (SetR B h mb cv con sd ck (nmOf l) x) w) := by
  have hsz := nmOf_size l hM.len
  have hab := hid habx
  clear habx
  have b0 := hid (((Below.refl w.heap.size w).alloc (Nat.le_refl _) (.cells #[.pointer (some ⟨q, 0, none⟩), .slice (some ⟨ab, 0, none⟩) 2 2] 74)).alloc (by simp) (.cells #[.int .u32 0, .slice none 0 0] 30))
  have X0 := hid ((Bx.new w #[.pointer (some ⟨q, 0, none⟩), .slice (some ⟨ab, 0, none⟩) 2 2] 74).below ((Below.refl _ _).alloc (Nat.le_refl _) (.cells #[.int .u32 0, .slice none 0 0] 30)))
  have X1 : Hid (Bx ((w.alloc (.cells #[.pointer (some ⟨q, 0, none⟩), .slice (some ⟨ab, 0, none⟩) 2 2] 74)).alloc (.cells #[.int .u32 0, .slice none 0 0] 30)) (w.heap.size + 1) #[.int .u32 0, .slice none 0 0] 30) := hid (by simpa using Bx.new (w.alloc (.cells #[.pointer (some ⟨q, 0, none⟩), .slice (some ⟨ab, 0, none⟩) 2 2] 74)) #[.int .u32 0, .slice none 0 0] 30)
  have H0 := hid (hH.below b0.out)
  have A0 := hid (ha.below b0.out)
  have M0 := hid (hM.below b0.out)
  have hlt := hid (fun b hb => (hH.hlt b hb).2)
  have hs0 : ((w.alloc (.cells #[.pointer (some ⟨q, 0, none⟩), .slice (some ⟨ab, 0, none⟩) 2 2] 74)).alloc (.cells #[.int .u32 0, .slice none 0 0] 30)).heap.size = w.heap.size + 2 := by simp
  clear hH ha hM
  go_enter Tryz.func48, Tryz.ntmps48
  generalize hw0 : (w.alloc (.cells #[.pointer (some ⟨q, 0, none⟩), .slice (some ⟨ab, 0, none⟩) 2 2] 74)).alloc (.cells #[.int .u32 0, .slice none 0 0] 30) = w0 at *
  go_wp2_with fail
  clear hw0
  have bd := (Below.refl w0.heap.size w0).drew
  have B1 := hid (b0.out.trans (bd.mono b0.out.size))
  have Y0 := hid (X0.out.below bd)
  have Y1 := hid (X1.out.below bd)
  have A1 := hid (A0.out.below bd)
  have M1 := hid (M0.out.below bd)
  have H1 := hid (H0.out.below bd)
  have hs1 : w0.drew.heap.size = w.heap.size + 2 := hs0
  refine wp_region_held_drew (S := (fun w9 => Bx w9 w.heap.size #[.pointer (some ⟨q, 0, none⟩), .slice (some ⟨ab, 0, none⟩) 2 2] 74 ∧ Bx w9 ab #[.int .u32 0, .int .u32 x] 23)) (by kernel_rfl) ⟨Y0.out, A1.out⟩ (fun hHeld => ?_)
  clear b0 X0 X1 H0 A0 M0 bd hs0
  generalize w0.drew = w1 at *
  refine wpAnyH_take (i := 0) (v := ?_) (by simp only [List.getElem?_toArray, List.getElem?_cons_succ, List.getElem?_cons_zero]; rfl) (by kernel_rfl) (by kernel_rfl) (by kernel_rfl) (by intro _ _ _ h; exact h) (Or.inl ⟨by rfl, ?_⟩) (by assumption) ?_
  rotate_left
  · intro w' hSw; go_simp; (try with_reducible rfl)
  try simp only [Act.put, List.setIfInBounds_toArray, List.set_cons_zero, List.set_cons_succ]
  refine wpAnyH_take (i := 1) (v := ?_) (by simp only [List.getElem?_toArray, List.getElem?_cons_succ, List.getElem?_cons_zero]; rfl) (by kernel_rfl) (by kernel_rfl) (by kernel_rfl) (by intro _ _ _ h; exact h) (Or.inl ⟨by rfl, ?_⟩) (by assumption) ?_
  rotate_left
  · intro w' hSw; have q0 := hSw.1.cell 0; have q1 := hSw.1.cell 1; simp at q0 q1; go_simp; (try with_reducible rfl)
  try simp only [Act.put, List.setIfInBounds_toArray, List.set_cons_zero, List.set_cons_succ]
  refine wpAnyH_take (i := 2) (v := ?_) (by simp only [List.getElem?_toArray, List.getElem?_cons_succ, List.getElem?_cons_zero]; rfl) (by kernel_rfl) (by kernel_rfl) (by kernel_rfl) (by intro _ _ _ h; exact h) (Or.inl ⟨by rfl, ?_⟩) (by assumption) ?_
  rotate_left
  · intro w' hSw; go_simp; (try with_reducible rfl)
  try simp only [Act.put, List.setIfInBounds_toArray, List.set_cons_zero, List.set_cons_succ]
  refine wpAnyH_take (i := 3) (v := ?_) (by simp only [List.getElem?_toArray, List.getElem?_cons_succ, List.getElem?_cons_zero]; rfl) (by kernel_rfl) (by kernel_rfl) (by kernel_rfl) (by intro _ _ _ h; exact h) (Or.inl ⟨by rfl, ?_⟩) (by assumption) ?_
  rotate_left
  · intro w' hSw; have q0 := hSw.1.cell 0; have q1 := hSw.1.cell 1; simp at q0 q1; go_simp; (try with_reducible rfl)
  try simp only [Act.put, List.setIfInBounds_toArray, List.set_cons_zero, List.set_cons_succ]
  refine wpAnyH_take (i := 4) (v := ?_) (by simp only [List.getElem?_toArray, List.getElem?_cons_succ, List.getElem?_cons_zero]; rfl) (by kernel_rfl) (by kernel_rfl) (by kernel_rfl) (by intro _ _ _ h; exact h) (Or.inl ⟨by rfl, ?_⟩) (by assumption) ?_
  rotate_left
  · intro w' hSw; go_simp; (try with_reducible rfl)
  try simp only [Act.put, List.setIfInBounds_toArray, List.set_cons_zero, List.set_cons_succ]
  refine wpAnyH_take (i := 5) (v := ?_) (by simp only [List.getElem?_toArray, List.getElem?_cons_succ, List.getElem?_cons_zero]; rfl) (by kernel_rfl) (by kernel_rfl) (by kernel_rfl) (by intro _ _ _ h; exact h) (Or.inl ⟨by rfl, ?_⟩) (by assumption) ?_
  rotate_left
  · intro w' hSw; have q1 := hSw.2.cell 0; simp at q1; go_simp; (try with_reducible rfl)
  try simp only [Act.put, List.setIfInBounds_toArray, List.set_cons_zero, List.set_cons_succ]
  refine wpAnyH_take (i := 7) (v := ?_) (by simp only [List.getElem?_toArray, List.getElem?_cons_succ, List.getElem?_cons_zero]; rfl) (by kernel_rfl) (by kernel_rfl) (by kernel_rfl) (by intro _ _ _ h; exact h) (Or.inl ⟨by rfl, ?_⟩) (by assumption) ?_
  rotate_left
  · intro w' hSw; go_simp; (try with_reducible rfl)
  try simp only [Act.put, List.setIfInBounds_toArray, List.set_cons_zero, List.set_cons_succ]
  refine wpAnyH_take (i := 8) (v := ?_) (by simp only [List.getElem?_toArray, List.getElem?_cons_succ, List.getElem?_cons_zero]; rfl) (by kernel_rfl) (by kernel_rfl) (by kernel_rfl) (by intro _ _ _ h; exact h) (Or.inl ⟨by rfl, ?_⟩) (by assumption) ?_
  rotate_left
  · intro w' hSw; have q0 := hSw.1.cell 0; have q1 := hSw.1.cell 1; simp at q0 q1; go_simp; (try with_reducible rfl)
  try simp only [Act.put, List.setIfInBounds_toArray, List.set_cons_zero, List.set_cons_succ]
  refine wpAnyH_take (i := 9) (v := ?_) (by simp only [List.getElem?_toArray, List.getElem?_cons_succ, List.getElem?_cons_zero]; rfl) (by kernel_rfl) (by kernel_rfl) (by kernel_rfl) (by intro _ _ _ h; exact h) (Or.inl ⟨by rfl, ?_⟩) (by assumption) ?_
  rotate_left
  · intro w' hSw; go_simp; (try with_reducible rfl)
  try simp only [Act.put, List.setIfInBounds_toArray, List.set_cons_zero, List.set_cons_succ]
  refine wpAnyH_take (i := 10) (v := ?_) (by simp only [List.getElem?_toArray, List.getElem?_cons_succ, List.getElem?_cons_zero]; rfl) (by kernel_rfl) (by kernel_rfl) (by kernel_rfl) (by intro _ _ _ h; exact h) (Or.inl ⟨by rfl, ?_⟩) (by assumption) ?_
  rotate_left
  · intro w' hSw; have q1 := hSw.2.cell 1; simp at q1; go_simp; (try with_reducible rfl)
  try simp only [Act.put, List.setIfInBounds_toArray, List.set_cons_zero, List.set_cons_succ]
  refine wpAnyH_ready (rs := [6]) (by kernel_rfl) (by simp) ?_
  refine AllReadyH.cons (by simp only [List.getElem?_toArray, List.getElem?_cons_succ, List.getElem?_cons_zero]; rfl) (fun K hK => ?_) AllReadyH.nil
  go_simp
  go_at_call 68
  refine (text68 M1.out _ ⟨_, _, _, rfl⟩).mono ?_
  rintro e w2 ⟨rfl, hb5⟩
  have hk := (show (fun w9 => Bx w9 w.heap.size #[.pointer (some ⟨q, 0, none⟩), .slice (some ⟨ab, 0, none⟩) 2 2] 74 ∧ Bx w9 ab #[.int .u32 0, .int .u32 x] 23) w2 from ⟨hHeld.1.below hb5, hHeld.2.below hb5⟩)
  have B2 := hid (B1.out.trans (hb5.mono B1.out.size))
  have H2 := hid (H1.out.below hb5)
  have Y2 := hid (Y1.out.below hb5)
  have Z2 := hid (hHeld.1.below hb5)
  have hs2 : w.heap.size + 2 ≤ w2.heap.size := by have := hb5.size; omega
  clear hHeld
  go_wp2_with fail
  refine hK.out _ _ hk (fun hHeld => ?_)
  clear hK K hk
  try simp only [Act.put, List.setIfInBounds_toArray, List.set_cons_zero, List.set_cons_succ]
  clear B1 H1 Y1 Y0 A1 M1 hs1
  have N6 : ∀ b, w.heap.size ≤ b → ¬ HT h mb cv b := fun b h8 h9 => by have := hlt.out b h9; omega
  have hhm := hid (show h < w.heap.size ∧ mb < w.heap.size from ⟨hlt.out h (.inl rfl), hlt.out mb (.inr (.inl rfl))⟩)
  have Z3 := hid hHeld.2
  cases hnb : nmB (nmOf l)
  · refine wpAnyH_ready (rs := [11]) (by kernel_rfl) (by simp) ?_
    refine AllReadyH.cons (by simp only [List.getElem?_toArray, List.getElem?_cons_succ, List.getElem?_cons_zero]; rfl) (fun K hK => ?_) AllReadyH.nil
    go_simp
    go_at_call 30
    refine (set30_bad H2.out (nmOf l) hsz hnb x).mono ?_
    rintro e w3 ⟨rfl, hb6⟩
    have hk := (show (fun w9 => Bx w9 w.heap.size #[.pointer (some ⟨q, 0, none⟩), .slice (some ⟨ab, 0, none⟩) 2 2] 74 ∧ Bx w9 ab #[.int .u32 0, .int .u32 x] 23) w3 from ⟨Z2.out.below hb6, Z3.out.below hb6⟩)
    have K3 := hid (Kpt.of (T := HT h mb cv) (B2.out.trans (hb6.mono B2.out.size)))
    have H3 := hid (H2.out.below hb6)
    have Y3 := hid (Y2.out.below hb6)
    clear hHeld hb6
    go_wp2_with fail
    refine hK.out _ _ hk (fun hHeld => ?_)
    clear hK K hk
    try simp only [Act.put, List.setIfInBounds_toArray, List.set_cons_zero, List.set_cons_succ]
    refine wpAnyH_take (i := 12) (v := ?_) (by simp only [List.getElem?_toArray, List.getElem?_cons_succ, List.getElem?_cons_zero]; rfl) (by kernel_rfl) (by kernel_rfl) (by kernel_rfl) (by intro _ _ _ h; exact h) (Or.inl ⟨by rfl, ?_⟩) (by assumption) ?_
    rotate_left
    · intro w' hSw; go_simp; (try with_reducible rfl)
    try simp only [Act.put, List.setIfInBounds_toArray, List.set_cons_zero, List.set_cons_succ]
    refine wpAnyH_done (by kernel_rfl) ?_ _
    clear Y2 H2 B2 hlt N6 Z2 Z3
    go_wp2_with fail
    refine (value72 _ _).mono ?_
    rintro e w4 ⟨rfl, hb4⟩
    have V1 := Y3.out.below hb4
    have q0 : w4.cell? ⟨w.heap.size + 1, 0, none⟩ = some (.int .u32 0) := by simpa using V1.cell 0
    have q1 : w4.cell? ⟨w.heap.size + 1, 1, none⟩ = some (.slice none 0 0) := by simpa using V1.cell 1
    have f0 := V1.free 0
    have f1 := V1.free 1
    have hz4 : w.heap.size + 1 < w4.heap.size := V1.lt
    have F := hid ((V1.set 0 (.int .u32 0)).set 1 (.slice none 0 0))
    have H4 := hid (H3.out.below hb4)
    have K4 := hid (K3.out.trans (Kpt.of (hb4.mono K3.out.size)))
    have hob := hid (row_ne_box H4.out.own V1 (by decide))
    clear V1 hb4 Y3 H3 K3
    go_wp2_with fail
    refine bodyPost_ret (v := .agg #[.int .u32 0, .slice none 0 0]) (results_cell_row rfl _ _ (w.heap.size + 1) _ _ _ _ rfl F.out Tryz.underlying30 rfl (by kernel_rfl)) rfl ?_
    refine ⟨_, none, 0, 0, rfl, K4.out.trans (Kpt.gr (set30 _ _ _ _) (by omega) fun b e => by simp only [Option.some.injEq] at e; exact .inr (by omega)), rfl, ?_⟩
    have H5 := Ho.off H4.out hhm.out.1 hhm.out.2 hob.out (set30 w4 (w.heap.size + 1) (.int .u32 0) (.slice none 0 0))
    rw [if_neg (by simp [hnb])]
    exact ⟨rfl, H5⟩

  · refine wpAnyH_ready (rs := [11]) (by kernel_rfl) (by simp) ?_
    refine AllReadyH.cons (by simp only [List.getElem?_toArray, List.getElem?_cons_succ, List.getElem?_cons_zero]; rfl) (fun K hK => ?_) AllReadyH.nil
    go_simp
    go_at_call 30
    refine (set30_new H2.out (nmOf l) hsz hnb x).mono ?_
    rintro e w3 ⟨rfl, hk6, hh6⟩
    have hk := (show (fun w9 => Bx w9 w.heap.size #[.pointer (some ⟨q, 0, none⟩), .slice (some ⟨ab, 0, none⟩) 2 2] 74 ∧ Bx w9 ab #[.int .u32 0, .int .u32 x] 23) w3 from ⟨hk6.box Z2.out Z2.out.lt (N6 _ (Nat.le_refl _)), hk6.box Z3.out Z3.out.lt hab.out⟩)
    have K3 := hid ((Kpt.of (T := HT h mb cv) B2.out).trans (hk6.mono B2.out.size (fun b _ h9 => h9)))
    have H3 := hid hh6
    have Y3 := hid (hk6.box Y2.out Y2.out.lt (N6 _ (by omega)))
    clear hHeld hk6 hh6
    go_wp2_with fail
    refine hK.out _ _ hk (fun hHeld => ?_)
    clear hK K hk
    try simp only [Act.put, List.setIfInBounds_toArray, List.set_cons_zero, List.set_cons_succ]
    refine wpAnyH_take (i := 12) (v := ?_) (by simp only [List.getElem?_toArray, List.getElem?_cons_succ, List.getElem?_cons_zero]; rfl) (by kernel_rfl) (by kernel_rfl) (by kernel_rfl) (by intro _ _ _ h; exact h) (Or.inl ⟨by rfl, ?_⟩) (by assumption) ?_
    rotate_left
    · intro w' hSw; go_simp; (try with_reducible rfl)
    try simp only [Act.put, List.setIfInBounds_toArray, List.set_cons_zero, List.set_cons_succ]
    refine wpAnyH_done (by kernel_rfl) ?_ _
    clear Y2 H2 B2 hlt N6 Z2 Z3
    go_wp2_with fail
    refine (value72 _ _).mono ?_
    rintro e w4 ⟨rfl, hb4⟩
    have V1 := Y3.out.below hb4
    have q0 : w4.cell? ⟨w.heap.size + 1, 0, none⟩ = some (.int .u32 0) := by simpa using V1.cell 0
    have q1 : w4.cell? ⟨w.heap.size + 1, 1, none⟩ = some (.slice none 0 0) := by simpa using V1.cell 1
    have f0 := V1.free 0
    have f1 := V1.free 1
    have hz4 : w.heap.size + 1 < w4.heap.size := V1.lt
    have F := hid ((V1.set 0 (.int .u32 1)).set 1 (.slice none 0 0))
    have H4 := hid (H3.out.below hb4)
    have K4 := hid (K3.out.trans (Kpt.of (hb4.mono K3.out.size)))
    have hob := hid (row_ne_box H4.out.own V1 (by decide))
    clear V1 hb4 Y3 H3 K3
    go_wp2_with fail
    refine bodyPost_ret (v := .agg #[.int .u32 1, .slice none 0 0]) (results_cell_row rfl _ _ (w.heap.size + 1) _ _ _ _ rfl F.out Tryz.underlying30 rfl (by kernel_rfl)) rfl ?_
    refine ⟨_, none, 0, 0, rfl, K4.out.trans (Kpt.gr (set30 _ _ _ _) (by omega) fun b e => by simp only [Option.some.injEq] at e; exact .inr (by omega)), rfl, ?_⟩
    have H5 := Ho.off H4.out hhm.out.1 hhm.out.2 hob.out (set30 w4 (w.heap.size + 1) (.int .u32 1) (.slice none 0 0))
    rw [if_pos hnb]
    exact ⟨rfl, H5⟩
/-- what get does over one variable, of that name -/
def GetR (B h mb : Nat) (cv : Value) (con : List UInt8) (sd ck : Int) (s : ByteArray) (x : Int) (at_ : Int) (v : Int) (r : Value) (w' : World) : Prop :=
  v = 1 ∧ Ho w' B h cv con mb [(s, .int .u32 x)] sd ck ∧ ∃ g bo bc, r = .slice (some ⟨g, 0, none⟩) 1 1 ∧ Bx w' g #[.int .u32 at_, .slice bo 4 bc] 40 ∧ w'.ownsRow 0 5 1 (.slice bo 4 bc) 4 ((le 4 x).map (Value.int .u8))
def Get0 (B h mb : Nat) (cv : Value) (con : List UInt8) (sd ck : Int) (v : Int) (r : Value) (w' : World) : Prop :=
  v = 0 ∧ r = .slice none 0 0 ∧ Ho w' B h cv con mb [] sd ck
set_option maxHeartbeats 16000000 in
theorem get47_nil {w : World} {B h mb : Nat} {cv : Value} {con : List UInt8} {sd ck : Int} (q Bm ab : Nat) (l : List UInt8) (x : Int) (hx : 0 ≤ x ∧ x ≤ 4294967295) (at_ : Int) (hH : Ho w B h cv con mb [] sd ck) (hM : Me w q Bm l) (ha : Bx w ab #[.int .u32 0, .int .u32 at_] 23) (habx : ¬ HT h mb cv ab) :
    Calls Tryz.prog 47 #[.pointer (some ⟨h, 0, none⟩), .agg #[.pointer (some ⟨q, 0, none⟩), .slice (some ⟨ab, 0, none⟩) 2 2]] w (Does (HT h mb cv) (Get0 B h mb cv con sd ck) w) := by
  have hsz := nmOf_size l hM.len
  have hab := hid habx
  clear habx
  have b0 := hid (((Below.refl w.heap.size w).alloc (Nat.le_refl _) (.cells #[.pointer (some ⟨q, 0, none⟩), .slice (some ⟨ab, 0, none⟩) 2 2] 74)).alloc (by simp) (.cells #[.int .u32 0, .slice none 0 0] 30))
  have X0 := hid ((Bx.new w #[.pointer (some ⟨q, 0, none⟩), .slice (some ⟨ab, 0, none⟩) 2 2] 74).below ((Below.refl _ _).alloc (Nat.le_refl _) (.cells #[.int .u32 0, .slice none 0 0] 30)))
  have X1 : Hid (Bx ((w.alloc (.cells #[.pointer (some ⟨q, 0, none⟩), .slice (some ⟨ab, 0, none⟩) 2 2] 74)).alloc (.cells #[.int .u32 0, .slice none 0 0] 30)) (w.heap.size + 1) #[.int .u32 0, .slice none 0 0] 30) := hid (by simpa using Bx.new (w.alloc (.cells #[.pointer (some ⟨q, 0, none⟩), .slice (some ⟨ab, 0, none⟩) 2 2] 74)) #[.int .u32 0, .slice none 0 0] 30)
  have H0 := hid (hH.below b0.out)
  have A0 := hid (ha.below b0.out)
  have M0 := hid (hM.below b0.out)
  have hlt := hid (fun b hb => (hH.hlt b hb).2)
  have hs0 : ((w.alloc (.cells #[.pointer (some ⟨q, 0, none⟩), .slice (some ⟨ab, 0, none⟩) 2 2] 74)).alloc (.cells #[.int .u32 0, .slice none 0 0] 30)).heap.size = w.heap.size + 2 := by simp
  clear hH ha hM
  go_enter Tryz.func47, Tryz.ntmps47
  generalize hw0 : (w.alloc (.cells #[.pointer (some ⟨q, 0, none⟩), .slice (some ⟨ab, 0, none⟩) 2 2] 74)).alloc (.cells #[.int .u32 0, .slice none 0 0] 30) = w0 at *
  go_wp2_with fail
  clear hw0
  have bd := (Below.refl w0.heap.size w0).drew
  have B1 := hid (b0.out.trans (bd.mono b0.out.size))
  have Y0 := hid (X0.out.below bd)
  have Y1 := hid (X1.out.below bd)
  have A1 := hid (A0.out.below bd)
  have M1 := hid (M0.out.below bd)
  have H1 := hid (H0.out.below bd)
  have hs1 : w0.drew.heap.size = w.heap.size + 2 := hs0
  refine wp_region_held_drew (S := (fun w9 => Bx w9 w.heap.size #[.pointer (some ⟨q, 0, none⟩), .slice (some ⟨ab, 0, none⟩) 2 2] 74 ∧ Bx w9 ab #[.int .u32 0, .int .u32 at_] 23)) (by kernel_rfl) ⟨Y0.out, A1.out⟩ (fun hHeld => ?_)
  clear b0 X0 X1 H0 A0 M0 bd hs0
  generalize w0.drew = w1 at *
  refine wpAnyH_take (i := 0) (v := ?_) (by simp only [List.getElem?_toArray, List.getElem?_cons_succ, List.getElem?_cons_zero]; rfl) (by kernel_rfl) (by kernel_rfl) (by kernel_rfl) (by intro _ _ _ h; exact h) (Or.inl ⟨by rfl, ?_⟩) (by assumption) ?_
  rotate_left
  · intro w' hSw; go_simp; (try with_reducible rfl)
  try simp only [Act.put, List.setIfInBounds_toArray, List.set_cons_zero, List.set_cons_succ]
  refine wpAnyH_take (i := 1) (v := ?_) (by simp only [List.getElem?_toArray, List.getElem?_cons_succ, List.getElem?_cons_zero]; rfl) (by kernel_rfl) (by kernel_rfl) (by kernel_rfl) (by intro _ _ _ h; exact h) (Or.inl ⟨by rfl, ?_⟩) (by assumption) ?_
  rotate_left
  · intro w' hSw; have q0 := hSw.1.cell 0; have q1 := hSw.1.cell 1; simp at q0 q1; go_simp; (try with_reducible rfl)
  try simp only [Act.put, List.setIfInBounds_toArray, List.set_cons_zero, List.set_cons_succ]
  refine wpAnyH_take (i := 2) (v := ?_) (by simp only [List.getElem?_toArray, List.getElem?_cons_succ, List.getElem?_cons_zero]; rfl) (by kernel_rfl) (by kernel_rfl) (by kernel_rfl) (by intro _ _ _ h; exact h) (Or.inl ⟨by rfl, ?_⟩) (by assumption) ?_
  rotate_left
  · intro w' hSw; go_simp; (try with_reducible rfl)
  try simp only [Act.put, List.setIfInBounds_toArray, List.set_cons_zero, List.set_cons_succ]
  refine wpAnyH_take (i := 3) (v := ?_) (by simp only [List.getElem?_toArray, List.getElem?_cons_succ, List.getElem?_cons_zero]; rfl) (by kernel_rfl) (by kernel_rfl) (by kernel_rfl) (by intro _ _ _ h; exact h) (Or.inl ⟨by rfl, ?_⟩) (by assumption) ?_
  rotate_left
  · intro w' hSw; have q0 := hSw.1.cell 0; have q1 := hSw.1.cell 1; simp at q0 q1; go_simp; (try with_reducible rfl)
  try simp only [Act.put, List.setIfInBounds_toArray, List.set_cons_zero, List.set_cons_succ]
  refine wpAnyH_take (i := 4) (v := ?_) (by simp only [List.getElem?_toArray, List.getElem?_cons_succ, List.getElem?_cons_zero]; rfl) (by kernel_rfl) (by kernel_rfl) (by kernel_rfl) (by intro _ _ _ h; exact h) (Or.inl ⟨by rfl, ?_⟩) (by assumption) ?_
  rotate_left
  · intro w' hSw; go_simp; (try with_reducible rfl)
  try simp only [Act.put, List.setIfInBounds_toArray, List.set_cons_zero, List.set_cons_succ]
  refine wpAnyH_take (i := 5) (v := ?_) (by simp only [List.getElem?_toArray, List.getElem?_cons_succ, List.getElem?_cons_zero]; rfl) (by kernel_rfl) (by kernel_rfl) (by kernel_rfl) (by intro _ _ _ h; exact h) (Or.inl ⟨by rfl, ?_⟩) (by assumption) ?_
  rotate_left
  · intro w' hSw; have q1 := hSw.2.cell 0; simp at q1; go_simp; (try with_reducible rfl)
  try simp only [Act.put, List.setIfInBounds_toArray, List.set_cons_zero, List.set_cons_succ]
  refine wpAnyH_ready (rs := [6]) (by kernel_rfl) (by simp) ?_
  refine AllReadyH.cons (by simp only [List.getElem?_toArray, List.getElem?_cons_succ, List.getElem?_cons_zero]; rfl) (fun K hK => ?_) AllReadyH.nil
  go_simp
  go_at_call 68
  refine (text68 M1.out _ ⟨_, _, _, rfl⟩).mono ?_
  rintro e w2 ⟨rfl, hb5⟩
  have hk := (show (fun w9 => Bx w9 w.heap.size #[.pointer (some ⟨q, 0, none⟩), .slice (some ⟨ab, 0, none⟩) 2 2] 74 ∧ Bx w9 ab #[.int .u32 0, .int .u32 at_] 23) w2 from ⟨hHeld.1.below hb5, hHeld.2.below hb5⟩)
  have B2 := hid (B1.out.trans (hb5.mono B1.out.size))
  have H2 := hid (H1.out.below hb5)
  have Y2 := hid (Y1.out.below hb5)
  have Z2 := hid (hHeld.1.below hb5)
  have Z3 := hid (hHeld.2.below hb5)
  have hs2 : w.heap.size + 2 ≤ w2.heap.size := by have := hb5.size; omega
  clear hHeld
  go_wp2_with fail
  refine hK.out _ _ hk (fun hHeld => ?_)
  clear hK K hk
  try simp only [Act.put, List.setIfInBounds_toArray, List.set_cons_zero, List.set_cons_succ]
  clear B1 H1 Y1 Y0 A1 M1 hs1 hHeld
  have N6 : ∀ b, w.heap.size ≤ b → ¬ HT h mb cv b := fun b h8 h9 => by have := hlt.out b h9; omega
  have hhm := hid (show h < w.heap.size ∧ mb < w.heap.size from ⟨hlt.out h (.inl rfl), hlt.out mb (.inr (.inl rfl))⟩)
  refine wpAnyH_ready (rs := [7]) (by kernel_rfl) (by simp) ?_
  refine AllReadyH.cons (by simp only [List.getElem?_toArray, List.getElem?_cons_succ, List.getElem?_cons_zero]; rfl) (fun K hK => ?_) AllReadyH.nil
  go_simp
  go_at_call 28
  refine (get28_nil (nmOf l) H2.out).mono ?_
  rintro e w3 ⟨rfl, rfl⟩
  have hk := (show (fun w9 => Bx w9 w.heap.size #[.pointer (some ⟨q, 0, none⟩), .slice (some ⟨ab, 0, none⟩) 2 2] 74 ∧ Bx w9 ab #[.int .u32 0, .int .u32 at_] 23) w2 from ⟨Z2.out, Z3.out⟩)
  skip
  go_wp2_with fail
  refine hK.out _ _ hk (fun hHeld => ?_)
  clear hK K hk
  try simp only [Act.put, List.setIfInBounds_toArray, List.set_cons_zero, List.set_cons_succ]
  refine wpAnyH_take (i := 8) (v := ?_) (by simp only [List.getElem?_toArray, List.getElem?_cons_succ, List.getElem?_cons_zero]; rfl) (by kernel_rfl) (by kernel_rfl) (by kernel_rfl) (by intro _ _ _ h; exact h) (Or.inl ⟨by rfl, ?_⟩) (by assumption) ?_
  rotate_left
  · intro w' hSw; go_simp; (try with_reducible rfl)
  try simp only [Act.put, List.setIfInBounds_toArray, List.set_cons_zero, List.set_cons_succ]
  refine wpAnyH_take (i := 9) (v := ?_) (by simp only [List.getElem?_toArray, List.getElem?_cons_succ, List.getElem?_cons_zero]; rfl) (by kernel_rfl) (by kernel_rfl) (by kernel_rfl) (by intro _ _ _ h; exact h) (Or.inl ⟨by rfl, ?_⟩) (by assumption) ?_
  rotate_left
  · intro w' hSw; go_simp; (try with_reducible rfl)
  try simp only [Act.put, List.setIfInBounds_toArray, List.set_cons_zero, List.set_cons_succ]
  refine wpAnyH_take (i := 10) (v := ?_) (by simp only [List.getElem?_toArray, List.getElem?_cons_succ, List.getElem?_cons_zero]; rfl) (by kernel_rfl) (by kernel_rfl) (by kernel_rfl) (by intro _ _ _ h; exact h) (Or.inl ⟨by rfl, ?_⟩) (by assumption) ?_
  rotate_left
  · intro w' hSw; go_simp; (try with_reducible rfl)
  try simp only [Act.put, List.setIfInBounds_toArray, List.set_cons_zero, List.set_cons_succ]
  refine wpAnyH_take (i := 11) (v := ?_) (by simp only [List.getElem?_toArray, List.getElem?_cons_succ, List.getElem?_cons_zero]; rfl) (by kernel_rfl) (by kernel_rfl) (by kernel_rfl) (by intro _ _ _ h; exact h) (Or.inl ⟨by rfl, ?_⟩) (by assumption) ?_
  rotate_left
  · intro w' hSw; go_simp; (try with_reducible rfl)
  try simp only [Act.put, List.setIfInBounds_toArray, List.set_cons_zero, List.set_cons_succ]
  refine wpAnyH_take (i := 12) (v := ?_) (by simp only [List.getElem?_toArray, List.getElem?_cons_succ, List.getElem?_cons_zero]; rfl) (by kernel_rfl) (by kernel_rfl) (by kernel_rfl) (by intro _ _ _ h; exact h) (Or.inl ⟨by rfl, ?_⟩) (by assumption) ?_
  rotate_left
  · intro w' hSw; go_simp; (try with_reducible rfl)
  try simp only [Act.put, List.setIfInBounds_toArray, List.set_cons_zero, List.set_cons_succ]
  refine wpAnyH_done (by kernel_rfl) ?_ _
  have K3 := hid (Kpt.of (T := HT h mb cv) B2.out)
  have H3 := hid H2.out
  have Y3 := hid Y2.out
  clear Y2 H2 B2 hlt N6 Z2 Z3
  go_wp2_with fail
  refine (value72 _ _).mono ?_
  rintro e w4 ⟨rfl, hb4⟩
  have V1 := Y3.out.below hb4
  have q0 : w4.cell? ⟨w.heap.size + 1, 0, none⟩ = some (.int .u32 0) := by simpa using V1.cell 0
  have q1 : w4.cell? ⟨w.heap.size + 1, 1, none⟩ = some (.slice none 0 0) := by simpa using V1.cell 1
  have f0 := V1.free 0
  have f1 := V1.free 1
  have hz4 : w.heap.size + 1 < w4.heap.size := V1.lt
  have F := hid ((V1.set 0 (.int .u32 0)).set 1 (.slice none 0 0))
  have H4 := hid (H3.out.below hb4)
  have K4 := hid (K3.out.trans (Kpt.of (hb4.mono K3.out.size)))
  have hob := hid (row_ne_box H4.out.own V1 (by decide))
  clear V1 hb4 Y3 H3 K3
  go_wp2_with fail
  refine bodyPost_ret (v := .agg #[.int .u32 0, .slice none 0 0]) (results_cell_row rfl _ _ (w.heap.size + 1) _ _ _ _ rfl F.out Tryz.underlying30 rfl (by kernel_rfl)) rfl ?_
  refine ⟨_, none, 0, 0, rfl, K4.out.trans (Kpt.gr (set30 _ _ _ _) (by omega) fun b e => by simp only [Option.some.injEq] at e; exact .inr (by omega)), rfl, ?_⟩
  have H5 := Ho.off H4.out hhm.out.1 hhm.out.2 hob.out (set30 w4 (w.heap.size + 1) (.int .u32 0) (.slice none 0 0))
  exact ⟨rfl, H5⟩
set_option maxHeartbeats 16000000 in
theorem get47_one {w : World} {B h mb : Nat} {cv : Value} {con : List UInt8} {sd ck : Int} (q Bm ab : Nat) (l : List UInt8) (x : Int) (hx : 0 ≤ x ∧ x ≤ 4294967295) (at_ : Int) (hH : Ho w B h cv con mb [(nmOf l, .int .u32 x)] sd ck) (hM : Me w q Bm l) (ha : Bx w ab #[.int .u32 0, .int .u32 at_] 23) (habx : ¬ HT h mb cv ab) :
    Calls Tryz.prog 47 #[.pointer (some ⟨h, 0, none⟩), .agg #[.pointer (some ⟨q, 0, none⟩), .slice (some ⟨ab, 0, none⟩) 2 2]] w (Does (HT h mb cv) (GetR B h mb cv con sd ck (nmOf l) x at_) w) := by
  have hsz := nmOf_size l hM.len
  have hab := hid habx
  clear habx
  have b0 := hid (((Below.refl w.heap.size w).alloc (Nat.le_refl _) (.cells #[.pointer (some ⟨q, 0, none⟩), .slice (some ⟨ab, 0, none⟩) 2 2] 74)).alloc (by simp) (.cells #[.int .u32 0, .slice none 0 0] 30))
  have X0 := hid ((Bx.new w #[.pointer (some ⟨q, 0, none⟩), .slice (some ⟨ab, 0, none⟩) 2 2] 74).below ((Below.refl _ _).alloc (Nat.le_refl _) (.cells #[.int .u32 0, .slice none 0 0] 30)))
  have X1 : Hid (Bx ((w.alloc (.cells #[.pointer (some ⟨q, 0, none⟩), .slice (some ⟨ab, 0, none⟩) 2 2] 74)).alloc (.cells #[.int .u32 0, .slice none 0 0] 30)) (w.heap.size + 1) #[.int .u32 0, .slice none 0 0] 30) := hid (by simpa using Bx.new (w.alloc (.cells #[.pointer (some ⟨q, 0, none⟩), .slice (some ⟨ab, 0, none⟩) 2 2] 74)) #[.int .u32 0, .slice none 0 0] 30)
  have H0 := hid (hH.below b0.out)
  have A0 := hid (ha.below b0.out)
  have M0 := hid (hM.below b0.out)
  have hlt := hid (fun b hb => (hH.hlt b hb).2)
  have hs0 : ((w.alloc (.cells #[.pointer (some ⟨q, 0, none⟩), .slice (some ⟨ab, 0, none⟩) 2 2] 74)).alloc (.cells #[.int .u32 0, .slice none 0 0] 30)).heap.size = w.heap.size + 2 := by simp
  clear hH ha hM
  go_enter Tryz.func47, Tryz.ntmps47
  generalize hw0 : (w.alloc (.cells #[.pointer (some ⟨q, 0, none⟩), .slice (some ⟨ab, 0, none⟩) 2 2] 74)).alloc (.cells #[.int .u32 0, .slice none 0 0] 30) = w0 at *
  go_wp2_with fail
  clear hw0
  have bd := (Below.refl w0.heap.size w0).drew
  have B1 := hid (b0.out.trans (bd.mono b0.out.size))
  have Y0 := hid (X0.out.below bd)
  have Y1 := hid (X1.out.below bd)
  have A1 := hid (A0.out.below bd)
  have M1 := hid (M0.out.below bd)
  have H1 := hid (H0.out.below bd)
  have hs1 : w0.drew.heap.size = w.heap.size + 2 := hs0
  refine wp_region_held_drew (S := (fun w9 => Bx w9 w.heap.size #[.pointer (some ⟨q, 0, none⟩), .slice (some ⟨ab, 0, none⟩) 2 2] 74 ∧ Bx w9 ab #[.int .u32 0, .int .u32 at_] 23)) (by kernel_rfl) ⟨Y0.out, A1.out⟩ (fun hHeld => ?_)
  clear b0 X0 X1 H0 A0 M0 bd hs0
  generalize w0.drew = w1 at *
  refine wpAnyH_take (i := 0) (v := ?_) (by simp only [List.getElem?_toArray, List.getElem?_cons_succ, List.getElem?_cons_zero]; rfl) (by kernel_rfl) (by kernel_rfl) (by kernel_rfl) (by intro _ _ _ h; exact h) (Or.inl ⟨by rfl, ?_⟩) (by assumption) ?_
  rotate_left
  · intro w' hSw; go_simp; (try with_reducible rfl)
  try simp only [Act.put, List.setIfInBounds_toArray, List.set_cons_zero, List.set_cons_succ]
  refine wpAnyH_take (i := 1) (v := ?_) (by simp only [List.getElem?_toArray, List.getElem?_cons_succ, List.getElem?_cons_zero]; rfl) (by kernel_rfl) (by kernel_rfl) (by kernel_rfl) (by intro _ _ _ h; exact h) (Or.inl ⟨by rfl, ?_⟩) (by assumption) ?_
  rotate_left
  · intro w' hSw; have q0 := hSw.1.cell 0; have q1 := hSw.1.cell 1; simp at q0 q1; go_simp; (try with_reducible rfl)
  try simp only [Act.put, List.setIfInBounds_toArray, List.set_cons_zero, List.set_cons_succ]
  refine wpAnyH_take (i := 2) (v := ?_) (by simp only [List.getElem?_toArray, List.getElem?_cons_succ, List.getElem?_cons_zero]; rfl) (by kernel_rfl) (by kernel_rfl) (by kernel_rfl) (by intro _ _ _ h; exact h) (Or.inl ⟨by rfl, ?_⟩) (by assumption) ?_
  rotate_left
  · intro w' hSw; go_simp; (try with_reducible rfl)
  try simp only [Act.put, List.setIfInBounds_toArray, List.set_cons_zero, List.set_cons_succ]
  refine wpAnyH_take (i := 3) (v := ?_) (by simp only [List.getElem?_toArray, List.getElem?_cons_succ, List.getElem?_cons_zero]; rfl) (by kernel_rfl) (by kernel_rfl) (by kernel_rfl) (by intro _ _ _ h; exact h) (Or.inl ⟨by rfl, ?_⟩) (by assumption) ?_
  rotate_left
  · intro w' hSw; have q0 := hSw.1.cell 0; have q1 := hSw.1.cell 1; simp at q0 q1; go_simp; (try with_reducible rfl)
  try simp only [Act.put, List.setIfInBounds_toArray, List.set_cons_zero, List.set_cons_succ]
  refine wpAnyH_take (i := 4) (v := ?_) (by simp only [List.getElem?_toArray, List.getElem?_cons_succ, List.getElem?_cons_zero]; rfl) (by kernel_rfl) (by kernel_rfl) (by kernel_rfl) (by intro _ _ _ h; exact h) (Or.inl ⟨by rfl, ?_⟩) (by assumption) ?_
  rotate_left
  · intro w' hSw; go_simp; (try with_reducible rfl)
  try simp only [Act.put, List.setIfInBounds_toArray, List.set_cons_zero, List.set_cons_succ]
  refine wpAnyH_take (i := 5) (v := ?_) (by simp only [List.getElem?_toArray, List.getElem?_cons_succ, List.getElem?_cons_zero]; rfl) (by kernel_rfl) (by kernel_rfl) (by kernel_rfl) (by intro _ _ _ h; exact h) (Or.inl ⟨by rfl, ?_⟩) (by assumption) ?_
  rotate_left
  · intro w' hSw; have q1 := hSw.2.cell 0; simp at q1; go_simp; (try with_reducible rfl)
  try simp only [Act.put, List.setIfInBounds_toArray, List.set_cons_zero, List.set_cons_succ]
  refine wpAnyH_ready (rs := [6]) (by kernel_rfl) (by simp) ?_
  refine AllReadyH.cons (by simp only [List.getElem?_toArray, List.getElem?_cons_succ, List.getElem?_cons_zero]; rfl) (fun K hK => ?_) AllReadyH.nil
  go_simp
  go_at_call 68
  refine (text68 M1.out _ ⟨_, _, _, rfl⟩).mono ?_
  rintro e w2 ⟨rfl, hb5⟩
  have hk := (show (fun w9 => Bx w9 w.heap.size #[.pointer (some ⟨q, 0, none⟩), .slice (some ⟨ab, 0, none⟩) 2 2] 74 ∧ Bx w9 ab #[.int .u32 0, .int .u32 at_] 23) w2 from ⟨hHeld.1.below hb5, hHeld.2.below hb5⟩)
  have B2 := hid (B1.out.trans (hb5.mono B1.out.size))
  have H2 := hid (H1.out.below hb5)
  have Y2 := hid (Y1.out.below hb5)
  have Z2 := hid (hHeld.1.below hb5)
  have Z3 := hid (hHeld.2.below hb5)
  have hs2 : w.heap.size + 2 ≤ w2.heap.size := by have := hb5.size; omega
  clear hHeld
  go_wp2_with fail
  refine hK.out _ _ hk (fun hHeld => ?_)
  clear hK K hk
  try simp only [Act.put, List.setIfInBounds_toArray, List.set_cons_zero, List.set_cons_succ]
  clear B1 H1 Y1 Y0 A1 M1 hs1 hHeld
  have N6 : ∀ b, w.heap.size ≤ b → ¬ HT h mb cv b := fun b h8 h9 => by have := hlt.out b h9; omega
  have hhm := hid (show h < w.heap.size ∧ mb < w.heap.size from ⟨hlt.out h (.inl rfl), hlt.out mb (.inr (.inl rfl))⟩)
  refine wpAnyH_ready (rs := [7]) (by kernel_rfl) (by simp) ?_
  refine AllReadyH.cons (by simp only [List.getElem?_toArray, List.getElem?_cons_succ, List.getElem?_cons_zero]; rfl) (fun K hK => ?_) AllReadyH.nil
  go_simp
  go_at_call 28
  refine (get28_one (nmOf l) x H2.out).mono ?_
  rintro e w3 ⟨rfl, rfl⟩
  have hk := (show (fun w9 => Bx w9 w.heap.size #[.pointer (some ⟨q, 0, none⟩), .slice (some ⟨ab, 0, none⟩) 2 2] 74 ∧ Bx w9 ab #[.int .u32 0, .int .u32 at_] 23) w2 from ⟨Z2.out, Z3.out⟩)
  skip
  go_wp2_with fail
  refine hK.out _ _ hk (fun hHeld => ?_)
  clear hK K hk
  try simp only [Act.put, List.setIfInBounds_toArray, List.set_cons_zero, List.set_cons_succ]
  refine wpAnyH_take (i := 8) (v := ?_) (by simp only [List.getElem?_toArray, List.getElem?_cons_succ, List.getElem?_cons_zero]; rfl) (by kernel_rfl) (by kernel_rfl) (by kernel_rfl) (by intro _ _ _ h; exact h) (Or.inl ⟨by rfl, ?_⟩) (by assumption) ?_
  rotate_left
  · intro w' hSw; go_simp; (try with_reducible rfl)
  try simp only [Act.put, List.setIfInBounds_toArray, List.set_cons_zero, List.set_cons_succ]
  refine wpAnyH_take (i := 9) (v := ?_) (by simp only [List.getElem?_toArray, List.getElem?_cons_succ, List.getElem?_cons_zero]; rfl) (by kernel_rfl) (by kernel_rfl) (by kernel_rfl) (by intro _ _ _ h; exact h) (Or.inl ⟨by rfl, ?_⟩) (by assumption) ?_
  rotate_left
  · intro w' hSw; go_simp; (try with_reducible rfl)
  try simp only [Act.put, List.setIfInBounds_toArray, List.set_cons_zero, List.set_cons_succ]
  refine wpAnyH_take (i := 10) (v := ?_) (by simp only [List.getElem?_toArray, List.getElem?_cons_succ, List.getElem?_cons_zero]; rfl) (by kernel_rfl) (by kernel_rfl) (by kernel_rfl) (by intro _ _ _ h; exact h) (Or.inl ⟨by rfl, ?_⟩) (by assumption) ?_
  rotate_left
  · intro w' hSw; go_simp; (try with_reducible rfl)
  try simp only [Act.put, List.setIfInBounds_toArray, List.set_cons_zero, List.set_cons_succ]
  refine wpAnyH_take (i := 11) (v := ?_) (by simp only [List.getElem?_toArray, List.getElem?_cons_succ, List.getElem?_cons_zero]; rfl) (by kernel_rfl) (by kernel_rfl) (by kernel_rfl) (by intro _ _ _ h; exact h) (Or.inl ⟨by rfl, ?_⟩) (by assumption) ?_
  rotate_left
  · intro w' hSw; go_simp; (try with_reducible rfl)
  try simp only [Act.put, List.setIfInBounds_toArray, List.set_cons_zero, List.set_cons_succ]
  refine wpAnyH_take (i := 12) (v := ?_) (by simp only [List.getElem?_toArray, List.getElem?_cons_succ, List.getElem?_cons_zero]; rfl) (by kernel_rfl) (by kernel_rfl) (by kernel_rfl) (by intro _ _ _ h; exact h) (Or.inl ⟨by rfl, ?_⟩) (by assumption) ?_
  rotate_left
  · intro w' hSw; go_simp; (try with_reducible rfl)
  try simp only [Act.put, List.setIfInBounds_toArray, List.set_cons_zero, List.set_cons_succ]
  refine wpAnyH_done (by kernel_rfl) ?_ _
  clear hlt N6 hHeld
  generalize w2 = w5 at *
  have bd := (Below.refl w5.heap.size w5).drew
  have B5 := hid (B2.out.trans (bd.mono B2.out.size))
  have P2 := hid (Z2.out.below bd)
  have P3 := hid (Z3.out.below bd)
  have P4 := hid (Y2.out.below bd)
  have P5 := hid (H2.out.below bd)
  have hs5 : w.heap.size + 2 ≤ w5.drew.heap.size := hs2
  go_wp2_with fail
  refine wp_region_held_drew (S := (fun w9 => Bx w9 w.heap.size #[.pointer (some ⟨q, 0, none⟩), .slice (some ⟨ab, 0, none⟩) 2 2] 74 ∧ Bx w9 ab #[.int .u32 0, .int .u32 at_] 23)) (by kernel_rfl) ⟨P2.out, P3.out⟩ (fun hHeld => ?_)
  clear B2 Z2 Z3 Y2 H2 bd hs2
  generalize w5.drew = w6 at *
  refine wpAnyH_take (i := 0) (v := ?_) (by simp only [List.getElem?_toArray, List.getElem?_cons_succ, List.getElem?_cons_zero]; rfl) (by kernel_rfl) (by kernel_rfl) (by kernel_rfl) (by intro _ _ _ h; exact h) (Or.inl ⟨by rfl, ?_⟩) (by assumption) ?_
  rotate_left
  · intro w' hSw; go_simp; (try with_reducible rfl)
  try simp only [Act.put, List.setIfInBounds_toArray, List.set_cons_zero, List.set_cons_succ]
  refine wpAnyH_take (i := 1) (v := ?_) (by simp only [List.getElem?_toArray, List.getElem?_cons_succ, List.getElem?_cons_zero]; rfl) (by kernel_rfl) (by kernel_rfl) (by kernel_rfl) (by intro _ _ _ h; exact h) (Or.inl ⟨by rfl, ?_⟩) (by assumption) ?_
  rotate_left
  · intro w' hSw; have q0 := hSw.1.cell 0; have q1 := hSw.1.cell 1; simp at q0 q1; go_simp; (try with_reducible rfl)
  try simp only [Act.put, List.setIfInBounds_toArray, List.set_cons_zero, List.set_cons_succ]
  refine wpAnyH_take (i := 2) (v := ?_) (by simp only [List.getElem?_toArray, List.getElem?_cons_succ, List.getElem?_cons_zero]; rfl) (by kernel_rfl) (by kernel_rfl) (by kernel_rfl) (by intro _ _ _ h; exact h) (Or.inl ⟨by rfl, ?_⟩) (by assumption) ?_
  rotate_left
  · intro w' hSw; go_simp; (try with_reducible rfl)
  try simp only [Act.put, List.setIfInBounds_toArray, List.set_cons_zero, List.set_cons_succ]
  refine wpAnyH_take (i := 3) (v := ?_) (by simp only [List.getElem?_toArray, List.getElem?_cons_succ, List.getElem?_cons_zero]; rfl) (by kernel_rfl) (by kernel_rfl) (by kernel_rfl) (by intro _ _ _ h; exact h) (Or.inl ⟨by rfl, ?_⟩) (by assumption) ?_
  rotate_left
  · intro w' hSw; have q1 := hSw.2.cell 1; simp at q1; go_simp; (try with_reducible rfl)
  try simp only [Act.put, List.setIfInBounds_toArray, List.set_cons_zero, List.set_cons_succ]
  refine wpAnyH_take (i := 4) (v := ?_) (by simp only [List.getElem?_toArray, List.getElem?_cons_succ, List.getElem?_cons_zero]; rfl) (by kernel_rfl) (by kernel_rfl) (by kernel_rfl) (by intro _ _ _ h; exact h) (Or.inl ⟨by rfl, ?_⟩) (by assumption) ?_
  rotate_left
  · intro w' hSw; go_simp; (try with_reducible rfl)
  try simp only [Act.put, List.setIfInBounds_toArray, List.set_cons_zero, List.set_cons_succ]
  have ba := (Below.refl w6.heap.size w6).alloc (Nat.le_refl _) (.cells #[.int .u32 x] 23)
  have xa : (w6.alloc (.cells #[.int .u32 x] 23)).cell? ⟨w6.heap.size, 0, none⟩ = some (.int .u32 x) := by simp
  have B6 := hid (B5.out.trans (ba.mono B5.out.size))
  have Q4 := hid (P4.out.below ba)
  have Q5 := hid (P5.out.below ba)
  have Q2 := hid (P2.out.below ba)
  have Q3 := hid (P3.out.below ba)
  have hs6 : w.heap.size + 2 ≤ (w6.alloc (.cells #[.int .u32 x] 23)).heap.size := by have := ba.size; omega
  have cp := hid (put76 w6.heap.size x _ hx xa)
  clear hHeld xa ba
  refine wpAnyH_ready (rs := [5]) (by kernel_rfl) (by simp) ?_
  refine AllReadyH.cons (by simp only [List.getElem?_toArray, List.getElem?_cons_succ, List.getElem?_cons_zero]; rfl) (fun K hK => ?_) AllReadyH.nil
  go_simp
  refine hK.out _ _ (show (fun w9 => Bx w9 w.heap.size #[.pointer (some ⟨q, 0, none⟩), .slice (some ⟨ab, 0, none⟩) 2 2] 74 ∧ Bx w9 ab #[.int .u32 0, .int .u32 at_] 23) _ from ⟨Q2.out, Q3.out⟩) (fun hHeld => ?_)
  clear hK K
  try simp only [Act.put, List.setIfInBounds_toArray, List.set_cons_zero, List.set_cons_succ]
  clear B5 P2 P3 P4 P5 hs5 hHeld
  generalize w6.alloc (.cells #[.int .u32 x] 23) = w7 at *
  refine wpAnyH_ready (rs := [6]) (by kernel_rfl) (by simp) ?_
  refine AllReadyH.cons (by simp only [List.getElem?_toArray, List.getElem?_cons_succ, List.getElem?_cons_zero]; rfl) (fun K hK => ?_) AllReadyH.nil
  go_simp
  refine cp.out.mono ?_
  rintro e w8 ⟨v', rfl, ho, hb8⟩
  obtain ⟨bo, bc, rfl, -⟩ := own_any_shape ho
  have O8 := hid (own_base ho (Nat.zero_le _))
  have B8 := hid (B6.out.trans (hb8.mono B6.out.size))
  have R4 := hid (Q4.out.below hb8)
  have R5 := hid (Q5.out.below hb8)
  have R2 := hid (Q2.out.below hb8)
  have R3 := hid (Q3.out.below hb8)
  have hs8 : w.heap.size + 2 ≤ w8.heap.size := by have := hb8.size; omega
  clear ho hb8 cp
  go_wp2_with fail
  refine hK.out _ _ (show (fun w9 => Bx w9 w.heap.size #[.pointer (some ⟨q, 0, none⟩), .slice (some ⟨ab, 0, none⟩) 2 2] 74 ∧ Bx w9 ab #[.int .u32 0, .int .u32 at_] 23) _ from ⟨R2.out, R3.out⟩) (fun hHeld => ?_)
  clear hK K hHeld
  try simp only [Act.put, List.setIfInBounds_toArray, List.set_cons_zero, List.set_cons_succ]
  clear B6 Q2 Q3 Q4 Q5 hs6
  refine wpAnyH_ready (rs := [7]) (by kernel_rfl) (by simp) ?_
  refine AllReadyH.cons (by simp only [List.getElem?_toArray, List.getElem?_cons_succ, List.getElem?_cons_zero]; rfl) (fun K hK => ?_) AllReadyH.nil
  go_simp
  refine (written75 at_ bo 4 bc w8).mono ?_
  rintro e w9 ⟨g, rfl, hg, hgl, hb9⟩
  have G9 := hid hg
  have O9 := hid (own_mono O8.out hb9 (Nat.le_refl _))
  have B9 := hid (B8.out.trans (hb9.mono B8.out.size))
  have T4 := R4.out.below hb9
  have T5 := hid (R5.out.below hb9)
  have T2 := hid (R2.out.below hb9)
  have T3 := hid (R3.out.below hb9)
  have hs9 : w.heap.size + 2 ≤ w9.heap.size := by have := hb9.size; omega
  have q0 : w9.cell? ⟨w.heap.size + 1, 0, none⟩ = some (.int .u32 0) := by simpa using T4.cell 0
  have q1 : w9.cell? ⟨w.heap.size + 1, 1, none⟩ = some (.slice none 0 0) := by simpa using T4.cell 1
  have f0 := T4.free 0
  have f1 := T4.free 1
  have F := hid ((T4.set 0 (.int .u32 1)).set 1 (.slice (some ⟨g, 0, none⟩) 1 1))
  have hob := hid (row_ne_box T5.out.own T4 (by decide))
  have hob2 := hid (row_ne_box O9.out T4 (by decide))
  have hgq := hid (show g ≠ w.heap.size + 1 by omega)
  have hw2 := hid (show w.heap.size ≠ w.heap.size + 1 by omega)
  have hab2 := hid (show ab ≠ w.heap.size + 1 from fun e => by have h8 := T3.out; have h9 := T4; unfold Bx at h8 h9; rw [e, h9] at h8; simp at h8)
  clear hg hb9 hgl
  go_wp2_with fail
  refine hK.out _ _ (show (fun w9 => Bx w9 w.heap.size #[.pointer (some ⟨q, 0, none⟩), .slice (some ⟨ab, 0, none⟩) 2 2] 74 ∧ Bx w9 ab #[.int .u32 0, .int .u32 at_] 23) _ from ⟨T2.out, T3.out⟩) (fun hHeld => ?_)
  clear hK K hHeld
  try simp only [Act.put, List.setIfInBounds_toArray, List.set_cons_zero, List.set_cons_succ]
  clear B8 R2 R3 R4 R5 O8 hs8 T4
  have SG := hid (set30 w9 (w.heap.size + 1) (.int .u32 1) (.slice (some ⟨g, 0, none⟩) 1 1))
  refine wpAnyH_ready (rs := [8]) (by kernel_rfl) (by simp) ?_
  refine AllReadyH.cons (by simp only [List.getElem?_toArray, List.getElem?_cons_succ, List.getElem?_cons_zero]; rfl) (fun K hK => ?_) AllReadyH.nil
  go_wp2_with fail
  refine hK.out _ _ (show (fun w9 => Bx w9 w.heap.size #[.pointer (some ⟨q, 0, none⟩), .slice (some ⟨ab, 0, none⟩) 2 2] 74 ∧ Bx w9 ab #[.int .u32 0, .int .u32 at_] 23) _ from ⟨T2.out.on SG.out (fun e => by simp at e), T3.out.on SG.out (fun e => hab2.out (by simpa using e))⟩) (fun hHeld => ?_)
  clear hK K hHeld
  try simp only [Act.put, List.setIfInBounds_toArray, List.set_cons_zero, List.set_cons_succ]
  refine wpAnyH_done (by kernel_rfl) ?_ _
  go_wp2_with fail
  refine bodyPost_ret (v := .agg #[.int .u32 1, .slice (some ⟨g, 0, none⟩) 1 1]) (results_cell_row rfl _ _ (w.heap.size + 1) _ _ _ _ rfl F.out Tryz.underlying30 rfl (by kernel_rfl)) rfl ?_
  refine ⟨_, _, 1, 1, rfl, (Kpt.of (T := HT h mb cv) B9.out).trans (Kpt.gr SG.out (by omega) fun b e => by simp only [Option.some.injEq] at e; exact .inr (by omega)), rfl, Ho.off T5.out hhm.out.1 hhm.out.2 hob.out SG.out, g, bo, bc, rfl, G9.out.on SG.out (fun e => hgq.out (by simpa using e)), O9.out.kept SG.out (.inr hob2.out)⟩

end Go.Proofs.YtmjholcpajfldaaGreatDoor
