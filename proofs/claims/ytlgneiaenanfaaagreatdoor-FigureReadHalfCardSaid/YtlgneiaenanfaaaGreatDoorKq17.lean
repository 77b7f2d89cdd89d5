/- Walks and plain laws, merged: FgT FqH. No condition. -/
import Derived.Test.YtlgneiaenanfaaaGreatDoorKq16
namespace Go.Proofs.YtlgneiaenanfaaaGreatDoor
open Go.RowKit
set_option linter.unusedVariables false
set_option linter.unusedSimpArgs false
set_option maxRecDepth 100000
set_option maxHeartbeats 64000000
section
set_option maxRecDepth 100000
def zeroC : Nat → Value := fun i => if i < 800 then .int .u8 0 else if i < 802 then .int .i64 0 else .bool false
structure SD (D : List Int) (q : Int) (neg : Bool) (c : Nat → Value) : Prop where
 dg : ∀ i (h : i < (dropZ D).length), c i = .int .u8 (dropZ D)[i]
 nd : c 800 = .int .i64 (kN D)
 dp : c 801 = .int .i64 q
 ng : c 802 = .bool neg
 tr : c 803 = .bool false
theorem SD.dpSet {D : List Int} {q : Int} {neg : Bool} {c : Nat → Value} (h : SD D q neg c) (hN : kN D ≤ 64) (q' : Int) : SD D q' neg (upd c 801 (.int .i64 q')) := by
 refine ⟨fun i hi => ?_, ?_, upd_same _ _ _, ?_, ?_⟩
 ·have : i < 64 := by unfold kN at hN; omega
  rw [upd_other (by omega)]; exact h.dg i hi
 ·rw [upd_other (by decide)]; exact h.nd
 ·rw [upd_other (by decide)]; exact h.ng
 ·rw [upd_other (by decide)]; exact h.tr
theorem SD.zero {D : List Int} {q : Int} {neg : Bool} {c : Nat → Value} (h : SD D q neg c) (hN : kN D = 0) : SD (D ++ [48]) q neg c := by
 have hd : dropZ D = [] := by
  unfold kN at hN
  exact List.length_eq_zero_iff.1 hN
 have hd2 : dropZ (D ++ [48]) = [] := by rw [dropZ_app, if_pos ⟨hd, rfl⟩]
 have hN2 : kN (D ++ [48]) = kN D := (k_zero (B := 10) (mx := 19) hN).2.1
 refine ⟨fun i hi => by rw [hd2] at hi; simp at hi, by rw [hN2]; exact h.nd, h.dp, h.ng, h.tr⟩
theorem SD.more {D : List Int} {q x : Int} {neg : Bool} {c : Nat → Value} (h : SD D q neg c) (hN : kN D ≤ 64) (hx : kN D ≠ 0 ∨ x ≠ 48) : SD (D ++ [x]) q neg (upd (upd c (kN D) (.int .u8 x)) 800 (.int .i64 ((kN D + 1 : Nat) : Int))) := by
 have hd : dropZ (D ++ [x]) = dropZ D ++ [x] := by
  rw [dropZ_app, if_neg]
  rintro ⟨h1, h2⟩
  rcases hx with h3 | h3
  ·apply h3; unfold kN; rw [h1]; rfl
  ·exact h3 h2
 have hN2 : kN (D ++ [x]) = kN D + 1 := (k_more (B := 10) (mx := 19) hx).1
 refine ⟨fun i hi => ?_, ?_, ?_, ?_, ?_⟩
 ·have hl : (dropZ D).length = kN D := rfl
  simp only [hd] at hi ⊢
  simp at hi
  rw [upd_other (by omega)]
  by_cases e : i = kN D
  ·subst e
   rw [upd_same]
   simp [hl]
  ·rw [upd_other e, h.dg i (by omega), List.getElem_append_left (by omega)]
 ·rw [upd_same, hN2]
 ·rw [upd_other (by decide), upd_other (by omega)]; exact h.dp
 ·rw [upd_other (by decide), upd_other (by omega)]; exact h.ng
 ·rw [upd_other (by decide), upd_other (by omega)]; exact h.tr
theorem frame224 (a : Act) (hd : a.defers = []) (hs : a.tmps.size = 224) : ∃ u : Nat → Value, (∀ i, u i = a.tmps.getD i undef) ∧ a = { tmps := #[u 0, u 1, u 2, u 3, u 4, u 5, u 6, u 7, u 8, u 9, u 10, u 11, u 12, u 13, u 14, u 15, u 16, u 17, u 18, u 19, u 20, u 21, u 22, u 23, u 24, u 25, u 26, u 27, u 28, u 29, u 30, u 31, u 32, u 33, u 34, u 35, u 36, u 37, u 38, u 39, u 40, u 41, u 42, u 43, u 44, u 45, u 46, u 47, u 48, u 49, u 50, u 51, u 52, u 53, u 54, u 55, u 56, u 57, u 58, u 59, u 60, u 61, u 62, u 63, u 64, u 65, u 66, u 67, u 68, u 69, u 70, u 71, u 72, u 73, u 74, u 75, u 76, u 77, u 78, u 79, u 80, u 81, u 82, u 83, u 84, u 85, u 86, u 87, u 88, u 89, u 90, u 91, u 92, u 93, u 94, u 95, u 96, u 97, u 98, u 99, u 100, u 101, u 102, u 103, u 104, u 105, u 106, u 107, u 108, u 109, u 110, u 111, u 112, u 113, u 114, u 115, u 116, u 117, u 118, u 119, u 120, u 121, u 122, u 123, u 124, u 125, u 126, u 127, u 128, u 129, u 130, u 131, u 132, u 133, u 134, u 135, u 136, u 137, u 138, u 139, u 140, u 141, u 142, u 143, u 144, u 145, u 146, u 147, u 148, u 149, u 150, u 151, u 152, u 153, u 154, u 155, u 156, u 157, u 158, u 159, u 160, u 161, u 162, u 163, u 164, u 165, u 166, u 167, u 168, u 169, u 170, u 171, u 172, u 173, u 174, u 175, u 176, u 177, u 178, u 179, u 180, u 181, u 182, u 183, u 184, u 185, u 186, u 187, u 188, u 189, u 190, u 191, u 192, u 193, u 194, u 195, u 196, u 197, u 198, u 199, u 200, u 201, u 202, u 203, u 204, u 205, u 206, u 207, u 208, u 209, u 210, u 211, u 212, u 213, u 214, u 215, u 216, u 217, u 218, u 219, u 220, u 221, u 222, u 223], defers := [] } := by
 refine ⟨fun i => a.tmps.getD i undef, fun _ => rfl, ?_⟩
 obtain ⟨t, d⟩ := a
 simp only at hd hs
 subst hd
 congr 1
 have e : t = ((List.range 224).map fun i => t.getD i undef).toArray := by
  apply Array.ext
  ·simp [hs]
  ·intro i h1 h2
   simp [Array.getD, h1]
 exact e.trans (by kernel_rfl)
def L200 (s : ByteArray) (g : Fig) (B n0 : Nat) (w : World) (i sd sg : Value) (wr : World) : Prop := ∃ (k : Nat) (D : List Int) (f : Option Nat) (q : Int) (c : Nat → Value), i = .int .i64 k ∧ sd = .bool f.isSome ∧ sg = .bool (decide (D ≠ [])) ∧ Hid (RF s g k D f q ∧ SD D q g.neg c ∧ Fn wr B c ∧ Below n0 w wr)
def L200b (s : ByteArray) (g : Fig) (w : World) (i e : Value) (wr : World) : Prop := ∃ (k n : Nat) (r : List Int), i = .int .i64 k ∧ e = .int .i64 n ∧ Hid ((bI s).drop k = r ∧ (∀ c ∈ r, isD c = true) ∧ satE 10000 r n = satE 10000 g.E 0 ∧ k ≤ s.size) ∧ n < 100000 ∧ wr = w
theorem set200 (B : Nat) (s : ByteArray) (hs : s.size ≤ 64) (g : Fig) (hg : g.Ok) (hh : g.hex = false) (ht : bI s = g.txt) (w : World) (hw : Fn w B zeroC) (n0 : Nat) (hn0 : n0 ≤ B) :
  Calls Tryz.prog 200 #[.pointer (some ⟨B, 0, none⟩), .string s] w fun e w' => e = .returned (.bool true) ∧ (∃ c, Fn w' B c ∧ SD g.D ((kN g.D : Int) + g.p 10000) g.neg c) ∧ Below n0 w w' := by
 obtain ⟨R, hR⟩ : ∃ R : World → Prop, R = fun w' => (∃ c, Fn w' B c ∧ SD g.D ((kN g.D : Int) + g.p 10000) g.neg c) ∧ Below n0 w w' := ⟨_, rfl⟩
 suffices hx : Calls Tryz.prog 200 #[.pointer (some ⟨B, 0, none⟩), .string s] w fun e w' => e = .returned (.bool true) ∧ R w' from hx.mono fun e w' h => ⟨h.1, by have := h.2; rw [hR] at this; exact this⟩
 replace hR := hid hR
 have hb64 : kN g.D ≤ 64 ∧ g.F.length ≤ 64 := by
  have h1 := kN_le g.D
  have h2 : g.D.length = g.I.length + g.F.length := by simp [Fig.D]
  have h3 : g.D.length ≤ s.size := D_le hg ht
  omega
 have hN : g.N = g.I ++ g.T := by unfold Fig.N; rw [hh]; rfl
 obtain ⟨c0, r0, hI1, hI2⟩ : ∃ c r, g.I = c :: r ∧ pD g.hex c = true := by
  have h1 := hg.nI
  have h2 := hg.pI
  cases hc : g.I with
  | nil => exact absurd hc h1
  | cons c r => exact ⟨c, r, rfl, h2 c (by rw [hc]; exact List.mem_cons_self)⟩
 have hIb := dig_b hI2
 have hIb1 : 48 ≤ c0 := hIb.1
 have f2 := hw.free 802
 have f3 := hw.free 803
 have e2 := hw.cell 802 (by decide)
 have e3 := hw.cell 803 (by decide)
 replace hw := hid hw
 go_enter Tryz.func200, Tryz.ntmps200
 have hne : ¬ s = ByteArray.empty := by
  rintro rfl
  have h1 := bI_len ByteArray.empty
  rw [ht] at h1
  unfold Fig.txt at h1
  rw [hN, hI1] at h1
  cases hn : g.neg <;> rw [hn] at h1 <;> simp at h1
 refine wp_seq_k fun K1 h1 => ?_
 have h1' := hid h1
 clear h1
 go_wp2_with fail
 refine h1'.out _ _ ?_
 clear h1'
 refine wp_seq_k fun K1 h1 => ?_
 have h1' := hid h1
 clear h1
 go_wp2_with fail
 refine h1'.out _ _ ?_
 clear h1'
 refine wp_seq_k fun K1 h1 => ?_
 have h1' := hid h1
 clear h1
 go_wp2_with fail
 refine h1'.out _ _ ?_
 clear h1'
 refine wp_seq_k fun K1 h1 => ?_
 have h1' := hid h1
 clear h1
 go_wp2_with fail
 refine h1'.out _ _ ?_
 clear h1'
 refine wp_seq_k fun K1 h1 => ?_
 have h1' := hid h1
 clear h1
 go_wp2_with fail
 refine h1'.out _ _ ?_
 clear h1'
 refine cut_seq (fun a' w' => ∃ (k : Nat) (c : Nat → Value), Hid ((bI s).drop k = g.I ++ g.T ∧ k ≤ s.size ∧ SD [] 0 g.neg c ∧ Fn w' B c ∧ Below n0 w w') ∧ a'.defers = [] ∧ a'.tmps.size = 224 ∧ a'.tmps.getD 0 undef = .pointer (some ⟨B, 0, none⟩) ∧ a'.tmps.getD 1 undef = .string s ∧ a'.tmps.getD 4 undef = .bool false ∧ a'.tmps.getD 5 undef = .int .i64 k) ?h1 ?h2
 case h1 =>
  intro K hK
  have hK' := hid hK
  clear hK
  cases hn : g.neg
  ·have hd : (bI s).drop 0 = g.I ++ g.T := by rw [List.drop_zero, ht, Fig.txt, hn, hN]; rfl
   obtain ⟨l0, m0, _⟩ := at_k (show (bI s).drop 0 = c0 :: (r0 ++ g.T) by rw [hd, hI1]; rfl)
   have hne : ¬ s = ByteArray.empty := by rintro rfl; simp at l0
   have b43 : (c0 == 43) = false := bne_of (by omega)
   have b45 : (c0 == 45) = false := bne_of (by omega)
   replace hd := hid hd
   replace hn := hid hn
   go_wp2_with fail
   exact hK'.out _ _ ⟨0, _, hid ⟨hd.out, by omega, ⟨fun i hi => by simp [dropZ] at hi, rfl, rfl, by rw [hn.out]; rfl, rfl⟩, ((hw.out.set 802 (by decide) (.bool false)).set 803 (by decide) (.bool false)), ((Below.refl _ _).setCell hn0 _).setCell hn0 _⟩, rfl, rfl, rfl, rfl, rfl, rfl⟩
  ·have hd0 : (bI s).drop 0 = 45 :: (g.I ++ g.T) := by rw [List.drop_zero, ht, Fig.txt, hn, hN]; rfl
   obtain ⟨l0, m0, hd⟩ := at_k hd0
   have hne : ¬ s = ByteArray.empty := by rintro rfl; simp at l0
   replace hd := hid hd
   replace hn := hid hn
   clear hd0
   go_wp2_with fail
   exact hK'.out _ _ ⟨1, _, hid ⟨hd.out, by omega, ⟨fun i hi => by simp [dropZ] at hi, rfl, rfl, by rw [hn.out]; rfl, rfl⟩, (((hw.out.set 802 (by decide) (.bool false)).set 803 (by decide) (.bool false)).set 802 (by decide) (.bool true)), (((Below.refl _ _).setCell hn0 _).setCell hn0 _).setCell hn0 _⟩, rfl, rfl, rfl, rfl, rfl, rfl⟩
 case h2 =>
  rintro a wc ⟨k1, c1, hP1, hd0, hz0, f0, f1, f4, f5⟩
  obtain ⟨u, hu, ha⟩ := frame224 a hd0 hz0
  rw [(hu 0).trans f0, (hu 1).trans f1, (hu 4).trans f4, (hu 5).trans f5] at ha
  clear f0 f1 f4 f5 hu hd0 hz0
  subst ha
  refine wp_seq_k fun K1 h1 => ?_
  have h1' := hid h1
  clear h1
  go_wp2_with fail
  refine h1'.out _ _ ?_
  clear h1'
  refine wp_seq_k fun K1 h1 => ?_
  have h1' := hid h1
  clear h1
  go_wp2_with fail
  refine h1'.out _ _ ?_
  clear h1'
  refine cut_seq (fun a' w' => ∃ (k : Nat) (q : Int) (c : Nat → Value), Hid ((bI s).drop k = g.U ∧ k ≤ s.size ∧ (-64 ≤ q ∧ q ≤ 64) ∧ (g.dot = true → q = (kN g.D : Int) - (g.F.length : Int)) ∧ SD g.D q g.neg c ∧ Fn w' B c ∧ Below n0 w w') ∧ a'.defers = [] ∧ a'.tmps.size = 224 ∧ a'.tmps.getD 0 undef = .pointer (some ⟨B, 0, none⟩) ∧ a'.tmps.getD 1 undef = .string s ∧ a'.tmps.getD 4 undef = .bool false ∧ a'.tmps.getD 5 undef = .int .i64 k ∧ a'.tmps.getD 6 undef = .bool g.dot ∧ a'.tmps.getD 7 undef = .bool true) ?h1 ?h2
  case h1 =>
   intro K hK
   have hK' := hid hK
   clear hK
   go_wp2_with fail
   go_loopw [5, 6, 7] (fun i sd sg wr => L200 s g B n0 w i sd sg wr) (fun i _ _ _ => s.size - (intOf i).toNat)
   case atStart => exact ⟨k1, [], none, 0, c1, rfl, rfl, by simp, hid ⟨⟨hP1.out.2.1, by rw [hP1.out.1]; exact gth_fig hg, by simp, by simp, fun _ => by omega, fun n e => nomatch e⟩, hP1.out.2.2.1, hP1.out.2.2.2.1, hP1.out.2.2.2.2⟩⟩
   case round =>
    obtain ⟨k, D, f, q, c, rfl, rfl, rfl, hV⟩ := hrel
    have hbd := hV.out.1.bd hs
    have hle := hV.out.1.le
    have hFr := hV.out.2.2.1
    have hSD := hV.out.2.1
    have c8 := hFr.cell 800 (by decide)
    have c81 := hFr.cell 801 (by decide)
    rw [hSD.nd] at c8
    rw [hSD.dp] at c81
    have f8 := hFr.free 800
    have f81 := hFr.free 801
    have hbd1 : -64 ≤ q := hbd.1
    have hbd2 : q ≤ 64 := hbd.2.1
    have hN64 : kN D ≤ 64 := by omega
    have hBl := hV.out.2.2.2
    cases hrest : (bI s).drop k with
    | nil =>
     have hkE : ¬ (k : Int) < (s.size : Int) := by have := at_end hrest hle; omega
     obtain ⟨eD, ef, eU⟩ := hV.out.1.stop (Or.inl hrest)
     have hfs : f.isSome = g.dot := by rw [ef]; cases g.dot <;> rfl
     have hqd : g.dot = true → q = (kN g.D : Int) - (g.F.length : Int) := fun e => eD ▸ (hV.out.1.q1 g.F.length (by rw [ef, if_pos e])).1
     have hSt : decide (D ≠ []) = true := by
      rw [eD]
      have := hg.nI
      simp only [ne_eq, decide_not, Bool.not_eq_true', decide_eq_false_iff_not]
      intro e
      rcases List.append_eq_nil_iff.1 e with ⟨e1, e2⟩
      exact this e1
     rw [hfs, hSt]
     have hfin : Hid ((bI s).drop k = g.U ∧ k ≤ s.size ∧ (-64 ≤ q ∧ q ≤ 64) ∧ (g.dot = true → q = (kN g.D : Int) - (g.F.length : Int)) ∧ SD g.D q g.neg c ∧ Fn wr B c ∧ Below n0 w wr) := hid ⟨eU, hle, ⟨hbd1, hbd2⟩, hqd, eD ▸ hV.out.2.1, hV.out.2.2.1, hV.out.2.2.2⟩
     clear hqd eU eD ef hfs hSt
     clear hrest hFr hSD hbd c8 c81 f8 f81 hBl
     go_wp2_with fail
     exact hK'.out _ _ ⟨k, q, c, hfin, rfl, rfl, rfl, rfl, rfl, rfl, rfl, rfl⟩
    | cons ch r =>
     obtain ⟨hlt, hc0, hr⟩ := at_k hrest
     have hxlt : (k : Int) < (s.size : Int) := by omega
     have hcb : 0 ≤ ch ∧ ch ≤ 255 := by have := s[k].toNat_lt; omega
     by_cases hc : pD g.hex ch = true
     ·have hb := dig_b hc
      have n95 : (ch == 95) = false := bne_of hb.2.2.1
      have n46 : (ch == 46) = false := bne_of hb.2.2.2
      have hS1 : (decide (D ++ [ch] ≠ [])) = true := by simp
      have hf1 : f.isSome = (f.map (· + 1)).isSome := by cases f <;> rfl
      have hcd : 48 ≤ ch ∧ ch ≤ 57 := by rw [hh] at hc; exact isD_iff.1 hc
      have hcd1 := hcd.1
      have hcd2 := hcd.2
      by_cases hz : kN D = 0 ∧ ch = 48
      ·have hstep := hV.out.1.step hrest hc hr hlt (q' := q - 1) (by rw [if_pos hz])
       have hfin : ∀ v : Value, v = .int .i64 (q - 1) → L200 s g B n0 w (.int .i64 ((k + 1 : Nat) : Int)) (.bool f.isSome) (.bool true) (wr.setCell ⟨B, 801, none⟩ v) := by
        rintro v rfl
        refine ⟨k + 1, D ++ [ch], f.map (· + 1), q - 1, _, rfl, by rw [hf1], by rw [hS1], hid ⟨hstep, ?_, hFr.set 801 (by decide) _, hBl.setCell hn0 _⟩⟩
        have h1 := hSD.dpSet hN64 (q - 1)
        rw [hz.2]
        exact h1.zero hz.1
       have hz1 := hz.1
       have hz2 := hz.2
       rw [hz1] at c8
       subst hz2
       replace hfin := hid hfin
       clear hstep hrest hr hc hb hcd hz hz1 hS1 hf1 hFr hSD hbd hBl
       go_wp2_with fail
       go_roundw
       case rel => exact hfin.out _ rfl
       case measure => simp [intOf]; omega
      ·have hz' : kN D ≠ 0 ∨ ch ≠ 48 := by
        by_cases h1 : kN D = 0
        ·exact Or.inr (fun e => hz ⟨h1, e⟩)
        ·exact Or.inl h1
       have hstep := hV.out.1.step hrest hc hr hlt (q' := q) (by rw [if_neg hz])
       have hmore := hSD.more hN64 hz'
       obtain ⟨Nn, hNn⟩ : ∃ Nn, Nn = kN D := ⟨_, rfl⟩
       rw [← hNn] at c8 hmore hN64 hz
       have cN := hFr.cell Nn (by omega)
       have fN := hFr.free Nn
       have hNi : (Nn : Int) < 800 := by omega
       have hfin : ∀ v v2 : Value, v = .int .u8 ch → v2 = .int .i64 ((Nn + 1 : Nat) : Int) → L200 s g B n0 w (.int .i64 ((k + 1 : Nat) : Int)) (.bool f.isSome) (.bool true) ((wr.drew.setCell ⟨B, Nn, none⟩ v).setCell ⟨B, 800, none⟩ v2) := by
        rintro v v2 rfl rfl
        exact ⟨k + 1, D ++ [ch], f.map (· + 1), q, _, rfl, by rw [hf1], by rw [hS1], hid ⟨hstep, hmore, (hFr.drew.set Nn (by omega) _).set 800 (by decide) _, (hBl.drew.setCell hn0 _).setCell hn0 _⟩⟩
       have hne8 : ¬ Nn = 800 := by omega
       replace hfin := hid hfin
       by_cases h48 : ch = 48
       ·have hN0 : ((Nn : Int) == 0) = false := bne_of (by omega)
        subst h48
        clear hstep hmore hrest hr hc hb hcd hz hz' hS1 hf1 hFr hSD hbd hBl hNn
        go_wp2_with fail
        go_region
        go_wp2_with fail
        go_roundw
        case rel => exact hfin.out _ _ rfl rfl
        case measure => simp [intOf]; omega
       ·have b48 : (ch == 48) = false := bne_of h48
        clear hstep hmore hrest hr hc hb hcd hz hz' hS1 hf1 hFr hSD hbd hBl hNn h48
        go_wp2_with fail
        go_region
        go_wp2_with fail
        go_roundw
        case rel => exact hfin.out _ _ rfl rfl
        case measure => simp [intOf]; omega
     ·have hc' : pD g.hex ch = false := by simpa using hc
      by_cases h46 : ch = 46 ∧ f = none
      ·obtain ⟨rfl, rfl⟩ := h46
       have hp := hV.out.1.point hrest hr hlt
       have hfin : ∀ v : Value, v = .int .i64 (kN D : Int) → L200 s g B n0 w (.int .i64 ((k + 1 : Nat) : Int)) (.bool true) (.bool (decide (D ≠ []))) (wr.setCell ⟨B, 801, none⟩ v) := by
        rintro v rfl
        exact ⟨k + 1, D, some 0, (kN D : Int), _, rfl, rfl, rfl, hid ⟨hp, hSD.dpSet hN64 _, hFr.set 801 (by decide) _, hBl.setCell hn0 _⟩⟩
       replace hfin := hid hfin
       clear hp hrest hr hc hc' hFr hSD hbd hBl
       go_wp2_with fail
       go_roundw
       case rel => exact hfin.out _ rfl
       case measure => simp [intOf]; omega
      ·obtain ⟨eD, ef, eU⟩ := hV.out.1.stop (Or.inr ⟨ch, r, hrest, hc', h46⟩)
       have hU : g.U = ch :: r := eU.symm.trans hrest
       have hcm : ch = g.m := by
        unfold Fig.U at hU
        by_cases he : g.ex = true
        ·rw [if_pos he] at hU; injection hU with a b; exact a.symm
        ·rw [if_neg he] at hU; cases hU
       have hc3 : ch = 101 ∨ ch = 69 := by
        rcases hg.hm with ⟨h1, h2⟩ | ⟨h1, h2⟩
        ·rw [hh] at h2; cases h2
        ·rw [hcm]; exact h1
       clear hU hrest hr
       have hfs : f.isSome = g.dot := by rw [ef]; cases g.dot <;> rfl
       have hqd : g.dot = true → q = (kN g.D : Int) - (g.F.length : Int) := fun e => eD ▸ (hV.out.1.q1 g.F.length (by rw [ef, if_pos e])).1
       have hSt : decide (D ≠ []) = true := by
        rw [eD]
        have := hg.nI
        simp only [ne_eq, decide_not, Bool.not_eq_true', decide_eq_false_iff_not]
        intro e
        rcases List.append_eq_nil_iff.1 e with ⟨e1, e2⟩
        exact this e1
       rw [hfs, hSt]
       have hfin : Hid ((bI s).drop k = g.U ∧ k ≤ s.size ∧ (-64 ≤ q ∧ q ≤ 64) ∧ (g.dot = true → q = (kN g.D : Int) - (g.F.length : Int)) ∧ SD g.D q g.neg c ∧ Fn wr B c ∧ Below n0 w wr) := hid ⟨eU, hle, ⟨hbd1, hbd2⟩, hqd, eD ▸ hV.out.2.1, hV.out.2.2.1, hV.out.2.2.2⟩
       clear hqd eU eD ef hfs hSt
       clear hc hc' h46 hcm hFr hSD hbd c8 c81 f8 f81 hBl
       rcases hc3 with rfl | rfl
       ·go_wp2_with fail
        exact hK'.out _ _ ⟨k, q, c, hfin, rfl, rfl, rfl, rfl, rfl, rfl, rfl, rfl⟩
       ·go_wp2_with fail
        exact hK'.out _ _ ⟨k, q, c, hfin, rfl, rfl, rfl, rfl, rfl, rfl, rfl, rfl⟩
  case h2 =>
   rintro a wc ⟨k, q, c, hP2, hd0, hz0, f0, f1, f4, f5, f6, f7⟩
   obtain ⟨u, hu, ha⟩ := frame224 a hd0 hz0
   rw [(hu 0).trans f0, (hu 1).trans f1, (hu 4).trans f4, (hu 5).trans f5, (hu 6).trans f6, (hu 7).trans f7] at ha
   clear f0 f1 f4 f5 f6 f7 hu hd0 hz0
   subst ha
   refine wp_seq_k fun K1 h1 => ?_
   have h1' := hid h1
   clear h1
   go_wp2_with fail
   refine h1'.out _ _ ?_
   clear h1'
   refine cut_seq (fun a' w' => ∃ (k : Nat) (c : Nat → Value), Hid ((bI s).drop k = g.U ∧ k ≤ s.size ∧ SD g.D ((kN g.D : Int) - (g.F.length : Int)) g.neg c ∧ Fn w' B c ∧ Below n0 w w') ∧ a'.defers = [] ∧ a'.tmps.size = 224 ∧ a'.tmps.getD 0 undef = .pointer (some ⟨B, 0, none⟩) ∧ a'.tmps.getD 1 undef = .string s ∧ a'.tmps.getD 4 undef = .bool false ∧ a'.tmps.getD 5 undef = .int .i64 k) ?h1 ?h2
   case h1 =>
    intro K hK
    have hK' := hid hK
    clear hK
    obtain ⟨hdr, hk, hqb, hqd, hSD, hFr, hBl⟩ := hP2.out
    have c8 := hFr.cell 800 (by decide)
    have f81 := hFr.free 801
    rw [hSD.nd] at c8
    have e81 := hFr.cell 801 (by decide)
    rw [hSD.dp] at e81
    by_cases hd : g.dot = true
    ·have hq2 := hqd hd
     have hfin : Hid ((bI s).drop k = g.U ∧ k ≤ s.size ∧ SD g.D ((kN g.D : Int) - (g.F.length : Int)) g.neg c ∧ Fn wc B c ∧ Below n0 w wc) := hid ⟨hdr, hk, hq2 ▸ hSD, hFr, hBl⟩
     rw [hd]
     replace hd := hid hd
     clear hSD hFr hBl hqd hq2 hdr
     go_wp2_with fail
     exact hK'.out _ _ ⟨k, c, hfin, rfl, rfl, rfl, rfl, rfl, rfl⟩
    ·have hF0 : (g.F.length : Int) = 0 := by rw [hg.zF (by simpa using hd)]; rfl
     have hfin : ∀ v : Value, v = .int .i64 (kN g.D : Int) → ((bI s).drop k = g.U ∧ k ≤ s.size ∧ SD g.D ((kN g.D : Int) - (g.F.length : Int)) g.neg (upd c 801 v) ∧ Fn (wc.setCell ⟨B, 801, none⟩ v) B (upd c 801 v) ∧ Below n0 w (wc.setCell ⟨B, 801, none⟩ v)) := by
      rintro v rfl
      refine ⟨hdr, hk, ?_, hFr.set 801 (by decide) _, hBl.setCell hn0 _⟩
      rw [hF0, Int.sub_zero]
      exact hSD.dpSet hb64.1 _
     rw [Bool.not_eq_true] at hd
     rw [hd]
     replace hd := hid hd
     replace hfin := hid hfin
     clear hSD hFr hBl hqd hdr hF0
     go_wp2_with fail
     exact hK'.out _ _ ⟨k, _, hid (hfin.out _ rfl), rfl, rfl, rfl, rfl, rfl, rfl⟩
   case h2 =>
    rintro a wc ⟨k, c, hP3, hd0, hz0, f0, f1, f4, f5⟩
    obtain ⟨u, hu, ha⟩ := frame224 a hd0 hz0
    rw [(hu 0).trans f0, (hu 1).trans f1, (hu 4).trans f4, (hu 5).trans f5] at ha
    clear f0 f1 f4 f5 hu hd0 hz0
    subst ha
    refine cut_seq (fun a' w' => ∃ (c : Nat → Value), Hid (SD g.D ((kN g.D : Int) + g.p 10000) g.neg c ∧ Fn w' B c ∧ Below n0 w w') ∧ a'.defers = [] ∧ a'.tmps.size = 224 ∧ a'.tmps.getD 0 undef = .pointer (some ⟨B, 0, none⟩) ∧ a'.tmps.getD 1 undef = .string s ∧ a'.tmps.getD 4 undef = .bool false ∧ a'.tmps.getD 5 undef = .int .i64 s.size) ?h1 ?h2
    case h1 =>
     intro K hK
     have hK' := hid hK
     clear hK
     have hdr := hP3.out.1
     have hk := hP3.out.2.1
     have cdp := hP3.out.2.2.2.1.cell 801 (by decide)
     rw [hP3.out.2.2.1.dp] at cdp
     have fdp := hP3.out.2.2.2.1.free 801
     have hkn := hb64.1
     have hfl := hb64.2
     by_cases he : g.ex = true
     ·have hU : g.U = g.m :: (g.sg ++ g.E) := by unfold Fig.U; rw [if_pos he]
      rw [hU] at hdr
      obtain ⟨l0, m0, d0⟩ := at_k hdr
      have hmb : 0 ≤ g.m ∧ g.m ≤ 255 := by have := s[k].toNat_lt; omega
      have hx0 : (k : Int) < (s.size : Int) := by omega
      have hlo : ∀ w, Calls Tryz.prog 171 #[.int .u8 g.m] w fun e w' => e = .returned (.int .u8 101) ∧ w = w' := by
       have e1 : lowI g.m = 101 := by
        rcases hg.hm with ⟨h1, h2⟩ | ⟨h1 | h1, h2⟩
        ·rw [hh] at h2; cases h2
        all_goals (rw [h1]; rfl)
       intro w
       have := lower171 g.m hmb w
       rwa [e1] at this
      replace hlo := hid hlo
      obtain ⟨d, E', hE⟩ : ∃ d E', g.E = d :: E' := by
       cases hc : g.E with
       | nil => exact absurd hc (hg.nE he)
       | cons d E' => exact ⟨d, E', rfl⟩
      have hd9 := hg.pE d (by rw [hE]; exact List.mem_cons_self)
      have hdb := isD_iff.1 hd9
      have hd1 : 48 ≤ d := hdb.1
      have hd2 : d ≤ 57 := hdb.2
      clear hdb hd9 hU hdr
      rcases hg.hs with h | h | h
      ·rw [h, List.nil_append] at d0
       have d0' := d0
       rw [hE] at d0
       obtain ⟨l1, m1, d1⟩ := at_k d0
       have hx1 : (k : Int) + 1 < (s.size : Int) := by omega
       have b43 : (d == 43) = false := bne_of (by omega)
       have b45 : (d == 45) = false := bne_of (by omega)
       rw [hE] at d0'
       replace d0' := hid d0'
       clear d0 d1
       go_wp2_with (go_at_call 171; refine (hlo.out _).mono ?_; rintro e w1 ⟨rfl, rfl⟩)
       go_loopw [5, 9] (fun i e wr => L200b s g wc i e wr) (fun i _ _ => s.size - (intOf i).toNat)
       case atStart => exact ⟨k + 1, 0, g.E, by first | rfl | go_num, rfl, hid ⟨by rw [hE]; exact d0'.out, hg.pE, rfl, by omega⟩, by omega, rfl⟩
       case round =>
        obtain ⟨k2, n, r, rfl, rfl, hr, hn, rfl⟩ := hrel
        have hn2 : (n : Int) < 100000 := by omega
        have hk2 : k2 ≤ s.size := hr.out.2.2.2
        cases hrr : r with
        | nil =>
         have hdr2 := hr.out.1
         rw [hrr] at hdr2
         obtain rfl := at_end hdr2 hk2
         have hsat : satE 10000 g.E 0 = n := by have := hr.out.2.2.1; rw [hrr] at this; exact this.symm
         have hfin : ∀ v : Value, v = .int .i64 ((kN g.D : Int) - (g.F.length : Int) + n) → (SD g.D ((kN g.D : Int) + g.p 10000) g.neg (upd c 801 v) ∧ Fn (wr.setCell ⟨B, 801, none⟩ v) B (upd c 801 v) ∧ Below n0 w (wr.setCell ⟨B, 801, none⟩ v)) := by
          rintro v rfl
          obtain ⟨a1, a2, a3, a4, a5⟩ := hP3.out
          refine ⟨?_, a4.set 801 (by decide) _, a5.setCell hn0 _⟩
          have e : (kN g.D : Int) + g.p 10000 = (kN g.D : Int) - (g.F.length : Int) + n := by
           unfold Fig.p Fig.q
           rw [hh, h, hsat]
           simp
           omega
          rw [e]
          exact a3.dpSet hb64.1 _
         replace hfin := hid hfin
         clear hdr2 hrr hE hsat
         obtain ⟨ti, hti⟩ : ∃ ti : Int, ti = (kN g.D : Int) - (g.F.length : Int) := ⟨_, rfl⟩
         rw [← hti] at cdp hfin
         have hti1 : -64 ≤ ti := by omega
         have hti2 : ti ≤ 64 := by omega
         replace hti := hid hti
         go_wp2_with fail
         exact hK'.out _ _ ⟨_, hid (hfin.out _ (by first | rfl | exact val_int (by omega))), rfl, rfl, rfl, rfl, rfl, rfl⟩
        | cons d r2 =>
         have hdr2 := hr.out.1
         rw [hrr] at hdr2
         obtain ⟨l2, m2, d2⟩ := at_k hdr2
         have hd9 := hr.out.2.1 d (by rw [hrr]; exact List.mem_cons_self)
         have hdb := isD_iff.1 hd9
         have hxw := (hxv_9 hd9)
         have hlt2 : (k2 : Int) < (s.size : Int) := by omega
         have q95 : (d == 95) = false := bne_of (by omega)
         have hall : ∀ c ∈ r2, isD c = true := fun c hc => hr.out.2.1 c (by rw [hrr]; exact List.mem_cons_of_mem _ hc)
         have hst := hr.out.2.2.1
         rw [hrr, satE_cons] at hst
         by_cases hn4 : n < 10000
         ·rw [if_pos hn4] at hst
          have hn5 : (n : Int) < 10000 := by omega
          have hfin : ∀ e : Int, e = ((10 * n + hxv d : Nat) : Int) → L200b s g wr (.int .i64 ((k2 + 1 : Nat) : Int)) (.int .i64 e) wr := fun e he => ⟨k2 + 1, 10 * n + hxv d, r2, rfl, by rw [he], hid ⟨d2, hall, hst, by omega⟩, by omega, rfl⟩
          have hxv2 := hxw.2
          replace hfin := hid hfin
          clear hst hall hd9 hxw hdr2 hrr d2 hE hn4
          go_wp2_with fail
          go_roundw
          case rel => exact hfin.out _ (by omega)
          case measure => simp [intOf]; omega
         ·rw [if_neg hn4] at hst
          have hn5 : ¬ (n : Int) < 10000 := by omega
          have hfin : L200b s g wr (.int .i64 ((k2 + 1 : Nat) : Int)) (.int .i64 n) wr := ⟨k2 + 1, n, r2, rfl, rfl, hid ⟨d2, hall, hst, by omega⟩, by omega, rfl⟩
          replace hfin := hid hfin
          clear hst hall hd9 hxw hdr2 hrr d2 hE hn4
          go_wp2_with fail
          go_roundw
          case rel => exact hfin.out
          case measure => simp [intOf]; omega
      ·rw [h, List.singleton_append] at d0
       obtain ⟨l1, m1, d1⟩ := at_k d0
       have d1' := d1
       rw [hE] at d1
       obtain ⟨l2, m2, d2⟩ := at_k d1
       have hx1 : (k : Int) + 1 < (s.size : Int) := by omega
       have hx2 : (k : Int) + 1 + 1 < (s.size : Int) := by omega
       rw [hE] at d1'
       replace d1' := hid d1'
       clear d0 d1 d2
       go_wp2_with (go_at_call 171; refine (hlo.out _).mono ?_; rintro e w1 ⟨rfl, rfl⟩)
       go_loopw [5, 9] (fun i e wr => L200b s g wc i e wr) (fun i _ _ => s.size - (intOf i).toNat)
       case atStart => exact ⟨k + 1 + 1, 0, g.E, by first | rfl | go_num, rfl, hid ⟨by rw [hE]; exact d1'.out, hg.pE, rfl, by omega⟩, by omega, rfl⟩
       case round =>
        obtain ⟨k2, n, r, rfl, rfl, hr, hn, rfl⟩ := hrel
        have hn2 : (n : Int) < 100000 := by omega
        have hk2 : k2 ≤ s.size := hr.out.2.2.2
        cases hrr : r with
        | nil =>
         have hdr2 := hr.out.1
         rw [hrr] at hdr2
         obtain rfl := at_end hdr2 hk2
         have hsat : satE 10000 g.E 0 = n := by have := hr.out.2.2.1; rw [hrr] at this; exact this.symm
         have hfin : ∀ v : Value, v = .int .i64 ((kN g.D : Int) - (g.F.length : Int) + n) → (SD g.D ((kN g.D : Int) + g.p 10000) g.neg (upd c 801 v) ∧ Fn (wr.setCell ⟨B, 801, none⟩ v) B (upd c 801 v) ∧ Below n0 w (wr.setCell ⟨B, 801, none⟩ v)) := by
          rintro v rfl
          obtain ⟨a1, a2, a3, a4, a5⟩ := hP3.out
          refine ⟨?_, a4.set 801 (by decide) _, a5.setCell hn0 _⟩
          have e : (kN g.D : Int) + g.p 10000 = (kN g.D : Int) - (g.F.length : Int) + n := by
           unfold Fig.p Fig.q
           rw [hh, h, hsat]
           simp
           omega
          rw [e]
          exact a3.dpSet hb64.1 _
         replace hfin := hid hfin
         clear hdr2 hrr hE hsat
         obtain ⟨ti, hti⟩ : ∃ ti : Int, ti = (kN g.D : Int) - (g.F.length : Int) := ⟨_, rfl⟩
         rw [← hti] at cdp hfin
         have hti1 : -64 ≤ ti := by omega
         have hti2 : ti ≤ 64 := by omega
         replace hti := hid hti
         go_wp2_with fail
         exact hK'.out _ _ ⟨_, hid (hfin.out _ (by first | rfl | exact val_int (by omega))), rfl, rfl, rfl, rfl, rfl, rfl⟩
        | cons d r2 =>
         have hdr2 := hr.out.1
         rw [hrr] at hdr2
         obtain ⟨l2, m2, d2⟩ := at_k hdr2
         have hd9 := hr.out.2.1 d (by rw [hrr]; exact List.mem_cons_self)
         have hdb := isD_iff.1 hd9
         have hxw := (hxv_9 hd9)
         have hlt2 : (k2 : Int) < (s.size : Int) := by omega
         have q95 : (d == 95) = false := bne_of (by omega)
         have hall : ∀ c ∈ r2, isD c = true := fun c hc => hr.out.2.1 c (by rw [hrr]; exact List.mem_cons_of_mem _ hc)
         have hst := hr.out.2.2.1
         rw [hrr, satE_cons] at hst
         by_cases hn4 : n < 10000
         ·rw [if_pos hn4] at hst
          have hn5 : (n : Int) < 10000 := by omega
          have hfin : ∀ e : Int, e = ((10 * n + hxv d : Nat) : Int) → L200b s g wr (.int .i64 ((k2 + 1 : Nat) : Int)) (.int .i64 e) wr := fun e he => ⟨k2 + 1, 10 * n + hxv d, r2, rfl, by rw [he], hid ⟨d2, hall, hst, by omega⟩, by omega, rfl⟩
          have hxv2 := hxw.2
          replace hfin := hid hfin
          clear hst hall hd9 hxw hdr2 hrr d2 hE hn4
          go_wp2_with fail
          go_roundw
          case rel => exact hfin.out _ (by omega)
          case measure => simp [intOf]; omega
         ·rw [if_neg hn4] at hst
          have hn5 : ¬ (n : Int) < 10000 := by omega
          have hfin : L200b s g wr (.int .i64 ((k2 + 1 : Nat) : Int)) (.int .i64 n) wr := ⟨k2 + 1, n, r2, rfl, rfl, hid ⟨d2, hall, hst, by omega⟩, by omega, rfl⟩
          replace hfin := hid hfin
          clear hst hall hd9 hxw hdr2 hrr d2 hE hn4
          go_wp2_with fail
          go_roundw
          case rel => exact hfin.out
          case measure => simp [intOf]; omega
      ·rw [h, List.singleton_append] at d0
       obtain ⟨l1, m1, d1⟩ := at_k d0
       have d1' := d1
       rw [hE] at d1
       obtain ⟨l2, m2, d2⟩ := at_k d1
       have hx1 : (k : Int) + 1 < (s.size : Int) := by omega
       have hx2 : (k : Int) + 1 + 1 < (s.size : Int) := by omega
       rw [hE] at d1'
       replace d1' := hid d1'
       clear d0 d1 d2
       go_wp2_with (go_at_call 171; refine (hlo.out _).mono ?_; rintro e w1 ⟨rfl, rfl⟩)
       go_loopw [5, 9] (fun i e wr => L200b s g wc i e wr) (fun i _ _ => s.size - (intOf i).toNat)
       case atStart => exact ⟨k + 1 + 1, 0, g.E, by first | rfl | go_num, rfl, hid ⟨by rw [hE]; exact d1'.out, hg.pE, rfl, by omega⟩, by omega, rfl⟩
       case round =>
        obtain ⟨k2, n, r, rfl, rfl, hr, hn, rfl⟩ := hrel
        have hn2 : (n : Int) < 100000 := by omega
        have hk2 : k2 ≤ s.size := hr.out.2.2.2
        cases hrr : r with
        | nil =>
         have hdr2 := hr.out.1
         rw [hrr] at hdr2
         obtain rfl := at_end hdr2 hk2
         have hsat : satE 10000 g.E 0 = n := by have := hr.out.2.2.1; rw [hrr] at this; exact this.symm
         have hfin : ∀ v : Value, v = .int .i64 ((kN g.D : Int) - (g.F.length : Int) - n) → (SD g.D ((kN g.D : Int) + g.p 10000) g.neg (upd c 801 v) ∧ Fn (wr.setCell ⟨B, 801, none⟩ v) B (upd c 801 v) ∧ Below n0 w (wr.setCell ⟨B, 801, none⟩ v)) := by
          rintro v rfl
          obtain ⟨a1, a2, a3, a4, a5⟩ := hP3.out
          refine ⟨?_, a4.set 801 (by decide) _, a5.setCell hn0 _⟩
          have e : (kN g.D : Int) + g.p 10000 = (kN g.D : Int) - (g.F.length : Int) - n := by
           unfold Fig.p Fig.q
           rw [hh, h, hsat]
           simp
           omega
          rw [e]
          exact a3.dpSet hb64.1 _
         replace hfin := hid hfin
         clear hdr2 hrr hE hsat
         obtain ⟨ti, hti⟩ : ∃ ti : Int, ti = (kN g.D : Int) - (g.F.length : Int) := ⟨_, rfl⟩
         rw [← hti] at cdp hfin
         have hti1 : -64 ≤ ti := by omega
         have hti2 : ti ≤ 64 := by omega
         replace hti := hid hti
         go_wp2_with fail
         exact hK'.out _ _ ⟨_, hid (hfin.out _ (by first | rfl | exact val_int (by omega))), rfl, rfl, rfl, rfl, rfl, rfl⟩
        | cons d r2 =>
         have hdr2 := hr.out.1
         rw [hrr] at hdr2
         obtain ⟨l2, m2, d2⟩ := at_k hdr2
         have hd9 := hr.out.2.1 d (by rw [hrr]; exact List.mem_cons_self)
         have hdb := isD_iff.1 hd9
         have hxw := (hxv_9 hd9)
         have hlt2 : (k2 : Int) < (s.size : Int) := by omega
         have q95 : (d == 95) = false := bne_of (by omega)
         have hall : ∀ c ∈ r2, isD c = true := fun c hc => hr.out.2.1 c (by rw [hrr]; exact List.mem_cons_of_mem _ hc)
         have hst := hr.out.2.2.1
         rw [hrr, satE_cons] at hst
         by_cases hn4 : n < 10000
         ·rw [if_pos hn4] at hst
          have hn5 : (n : Int) < 10000 := by omega
          have hfin : ∀ e : Int, e = ((10 * n + hxv d : Nat) : Int) → L200b s g wr (.int .i64 ((k2 + 1 : Nat) : Int)) (.int .i64 e) wr := fun e he => ⟨k2 + 1, 10 * n + hxv d, r2, rfl, by rw [he], hid ⟨d2, hall, hst, by omega⟩, by omega, rfl⟩
          have hxv2 := hxw.2
          replace hfin := hid hfin
          clear hst hall hd9 hxw hdr2 hrr d2 hE hn4
          go_wp2_with fail
          go_roundw
          case rel => exact hfin.out _ (by omega)
          case measure => simp [intOf]; omega
         ·rw [if_neg hn4] at hst
          have hn5 : ¬ (n : Int) < 10000 := by omega
          have hfin : L200b s g wr (.int .i64 ((k2 + 1 : Nat) : Int)) (.int .i64 n) wr := ⟨k2 + 1, n, r2, rfl, rfl, hid ⟨d2, hall, hst, by omega⟩, by omega, rfl⟩
          replace hfin := hid hfin
          clear hst hall hd9 hxw hdr2 hrr d2 hE hn4
          go_wp2_with fail
          go_roundw
          case rel => exact hfin.out
          case measure => simp [intOf]; omega
     ·have hU : g.U = [] := by unfold Fig.U; rw [if_neg he]
      rw [hU] at hdr
      obtain rfl := at_end hdr hk
      have hx0 : ¬ (s.size : Int) < (s.size : Int) := by omega
      have hz := hg.zE (by simpa using he)
      have hfin : Hid (SD g.D ((kN g.D : Int) + g.p 10000) g.neg c ∧ Fn wc B c ∧ Below n0 w wc) := hid (by
       obtain ⟨a1, a2, a3, a4, a5⟩ := hP3.out
       refine ⟨?_, a4, a5⟩
       have e : (kN g.D : Int) + g.p 10000 = (kN g.D : Int) - (g.F.length : Int) := by
        unfold Fig.p Fig.q
        rw [hh, hz.1, hz.2]
        simp [satE]
        omega
       rw [e]
       exact a3)
      clear hdr hz
      go_wp2_with fail
      exact hK'.out _ _ ⟨c, hfin, rfl, rfl, rfl, rfl, rfl, rfl⟩
    case h2 =>
     rintro a wc ⟨c, hP4, hd0, hz0, f0, f1, f4, f5⟩
     obtain ⟨u, hu, ha⟩ := frame224 a hd0 hz0
     rw [(hu 0).trans f0, (hu 1).trans f1, (hu 4).trans f4, (hu 5).trans f5] at ha
     clear f0 f1 f4 f5 hu hd0 hz0
     subst ha
     have hxx : ((s.size : Int) != (s.size : Int)) = false := by simp
     go_wp2_with fail
     go_ret
     exact ⟨rfl, by rw [hR.out]; exact ⟨⟨c, hP4.out.2.1, hP4.out.1⟩, hP4.out.2.2⟩⟩
end
section
set_option maxRecDepth 100000
open Go
def Exit.outs (J : Nat → Act → World → Prop) (Q : Exit → Act → World → Prop) : Exit → Act → World → Prop
 | .goto l, a, w => J l a w
 | e, a, w => Q e a w
theorem wp_scope_outs {P : Program} {a : Act} {w : World} {Q : Exit → Act → World → Prop} {c : Code} (J : Nat → Act → World → Prop) (rest : Nat → Code) (hf : ∀ l a w, J l a w → findLabel c l = some (rest l))
  (first : c.wp P (Exit.outs J Q) a w) (pass : ∀ l a w, J l a w → (rest l).wp P (Exit.outs (fun _ _ _ => False) Q) a w) : (Code.scope c).wp P Q a w := by
 intro b k cs
 obtain ⟨e, a₁, w₁, hq, harr⟩ := first b (.inScope c :: k) cs
 cases e with
 | normal => exact ⟨.normal, a₁, w₁, hq, .head step_scope (Steps.trans harr (.one step_inScope))⟩
 | exit id => exact ⟨.exit id, a₁, w₁, hq, fun k' hk => .head step_scope (harr k' (by simp [exitTo, hk]))⟩
 | goto l' =>
  have hJ : J l' a₁ w₁ := hq
  have hg : gotoIn l' (.inScope c :: k) = some (.code (rest l') :: .inScope c :: k) := by simp [gotoIn, hf _ _ _ hJ]
  obtain ⟨e2, a2, w2, hq2, harr2⟩ := pass l' a₁ w₁ hJ b (.inScope c :: k) cs
  cases e2 with
  | normal => exact ⟨.normal, a2, w2, hq2, .of_steps (.head step_scope (harr _ hg)) (Steps.trans harr2 (.one step_inScope))⟩
  | exit id => exact ⟨.exit id, a2, w2, hq2, .of_steps (.head step_scope (harr _ hg)) (fun k' hk => harr2 k' (by simp [exitTo, hk]))⟩
  | goto l2 => exact absurd hq2 id
  | ret => exact ⟨_, a2, w2, hq2, .of_steps (.head step_scope (harr _ hg)) harr2⟩
  | panic ch => exact ⟨_, a2, w2, hq2, .of_steps (.head step_scope (harr _ hg)) harr2⟩
  | outgrown => exact ⟨_, a2, w2, hq2, .of_steps (.head step_scope (harr _ hg)) harr2⟩
 | ret => exact ⟨_, a₁, w₁, hq, .of_steps (.one step_scope) harr⟩
 | panic ch => exact ⟨_, a₁, w₁, hq, .of_steps (.one step_scope) harr⟩
 | outgrown => exact ⟨_, a₁, w₁, hq, .of_steps (.one step_scope) harr⟩
/-! ### a figure's digits -/
theorem gat_dnum : ∀ (l : List Int) (a : Nat), gat 10 l a = (l.map hxv).foldl (fun a d => 10 * a + d) a
 | [], _ => rfl
 | c :: r, a => by rw [gat_cons, List.map_cons, List.foldl_cons, gat_dnum r, Nat.mul_comm]
def Fig.ds (g : Fig) : List Nat := (dropZ g.D).map hxv
theorem Fig.Ok.ds_dnum {g : Fig} (hg : g.Ok) (hh : g.hex = false) : dnum g.ds = g.M := by
 unfold Fig.M Fig.C
 rw [hh]
 show _ = gat 10 g.D 0
 rw [← gat_dropZ, gat_dnum]
 rfl
theorem Fig.ds_len (g : Fig) : g.ds.length = kN g.D := by unfold Fig.ds kN; simp
theorem Fig.Ok.ds_nine {g : Fig} (hg : g.Ok) (hh : g.hex = false) : DG g.ds := by
 intro d hd
 obtain ⟨c, hc, rfl⟩ := List.mem_map.1 hd
 have := hg.pDD c ((List.dropWhile_suffix _).subset hc)
 rw [hh] at this
 exact (hxv_9 this).1
theorem Fig.Ok.ds_head {g : Fig} (hg : g.Ok) (hh : g.hex = false) (hM : g.M ≠ 0) : ∃ d r, g.ds = d :: r ∧ d ≠ 0 := by
 unfold Fig.ds
 cases hz : dropZ g.D with
 | nil =>
  exfalso
  apply hM
  rw [← hg.ds_dnum hh]
  unfold Fig.ds
  rw [hz]
  rfl
 | cons c r =>
  refine ⟨hxv c, r.map hxv, rfl, ?_⟩
  have hc48 : c ≠ 48 := by
   have hb := List.head?_dropWhile_not (fun c : Int => c == 48) g.D
   unfold dropZ at hz
   rw [hz] at hb
   simpa using hb
  have := hg.pDD c ((List.dropWhile_suffix _).subset (by unfold dropZ at hz; rw [hz]; exact List.mem_cons_self))
  rw [hh] at this
  have h1 := isD_iff.1 this
  have h2 := (hxv_9 this).2
  omega
theorem Fig.Ok.ds_val {g : Fig} (hg : g.Ok) (hh : g.hex = false) (p : Int) : DV g.ds ((kN g.D : Int) + p) (g.M * 10 ^ p.toNat) (10 ^ (-p).toNat) := by
 unfold DV
 rw [g.ds_len, hg.ds_dnum hh, show (kN g.D : Int) + p - (kN g.D : Nat) = p by omega, show ((kN g.D : Nat) : Int) - ((kN g.D : Int) + p) = -p by omega]
theorem len_bd {l : List Nat} {dp : Int} {n d f : Nat} (h : DV l dp n d) (hl : DG l) (hd : 0 < d) (hlast : ∀ x, l.getLast? = some x → x ≠ 0) (hne : l ≠ []) (hf : d ∣ n * 10 ^ f) : (l.length : Int) ≤ dp + f ∨ (l.length : Int) ≤ dp := by
 by_cases hc : (l.length : Int) ≤ dp + f
 ·exact Or.inl hc
 exfalso
 obtain ⟨j, hj⟩ : ∃ j : Nat, (l.length : Int) - dp = (f : Int) + 1 + j := ⟨((l.length : Int) - dp - f - 1).toNat, by omega⟩
 obtain ⟨q, hq⟩ := hf
 unfold DV at h
 rw [show (dp - (l.length : Int)).toNat = 0 by omega, Nat.pow_zero, Nat.mul_one, show ((l.length : Int) - dp).toNat = f + 1 + j by omega] at h
 have key : dnum l * d = (10 * (q * 10 ^ j)) * d := by
  rw [h, Nat.pow_add, Nat.pow_add]
  calc n * (10 ^ f * 10 ^ 1 * 10 ^ j) = n * 10 ^ f * 10 * 10 ^ j := by simp only [Nat.mul_assoc, Nat.pow_one]
   _ = d * q * 10 * 10 ^ j := by rw [hq]
   _ = _ := by simp only [Nat.mul_assoc, Nat.mul_left_comm, Nat.mul_comm]
 have key2 := Nat.eq_of_mul_eq_mul_right hd key
 obtain ⟨x, hx⟩ : ∃ x, l.getLast? = some x := ⟨_, List.getLast?_eq_some_getLast hne⟩
 obtain ⟨r, e⟩ := List.getLast?_eq_some_iff.1 hx
 have hx9 : x ≤ 9 := hl x (by rw [e]; simp)
 have h0 := dnum_last (l := r) (d := x) (by rw [← e, key2, Nat.mul_mod_right]) hx9
 exact hlast x hx h0
theorem fig_dvd (M e f : Nat) (p : Int) (hf : (e : Int) - p ≤ f) : 10 ^ (-p).toNat * 2 ^ e ∣ M * 10 ^ p.toNat * 10 ^ f := by
 rw [Nat.mul_assoc, ← Nat.pow_add]
 refine Nat.dvd_mul_left_of_dvd ?_ M
 have h1 : 2 ^ e ∣ 10 ^ e := ⟨5 ^ e, by rw [← Nat.mul_pow]⟩
 exact Nat.dvd_trans (Nat.mul_dvd_mul_left _ h1) (by rw [← Nat.pow_add]; exact Nat.pow_dvd_pow 10 (by omega))
end
end Go.Proofs.YtlgneiaenanfaaaGreatDoor
