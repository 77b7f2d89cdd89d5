/- Walks and plain laws, merged: FgK. No condition. -/
import Derived.Laws.FloatArith
import Derived.Test.YtlgneiaenanfaaaGreatDoorKq08
import Derived.Test.YtlgneiaenanfaaaGreatDoorKq10
namespace Go.Proofs.YtlgneiaenanfaaaGreatDoor
open Go.RowKit
set_option linter.unusedVariables false
set_option linter.unusedSimpArgs false
set_option maxRecDepth 100000
set_option maxHeartbeats 64000000
section
set_option maxRecDepth 100000
theorem results_tmp7 {fn : Func} {t1 t2 t3 t4 t5 t6 t7 : Tmp} (h : fn.results = #[.tmp t1, .tmp t2, .tmp t3, .tmp t4, .tmp t5, .tmp t6, .tmp t7]) (tmps : Array Value) (P : Program) (w : World) :
  (results fn tmps).run P w = .ok (.tuple #[tmps.getD t1 undef, tmps.getD t2 undef, tmps.getD t3 undef, tmps.getD t4 undef, tmps.getD t5 undef, tmps.getD t6 undef, tmps.getD t7 undef]) w := by
 simp [results, h]
theorem cut_seq {P : Program} {x y : Code} {Q : Exit → Act → World → Prop} {a : Act} {w : World} (R : Act → World → Prop)
  (h1 : ∀ K : Act → World → Prop, (∀ a w, R a w → K a w) → x.wp P (Exit.then K Q) a w) (h2 : ∀ a w, R a w → y.wp P Q a w) : (Code.seq x y).wp P Q a w :=
 wp_seq_k fun K hK => h1 K (fun a w h => hK a w (h2 a w h))
theorem at_k {s : ByteArray} {k : Nat} {c : Int} {r : List Int} (h : (bI s).drop k = c :: r) : ∃ hk : k < s.size, (s[k].toNat : Int) = c ∧ (bI s).drop (k + 1) = r := by
 by_cases hk : k < s.size
 ·rw [bI_drop s k hk] at h
  injection h with h1 h2
  exact ⟨hk, h1, h2⟩
 ·rw [List.drop_eq_nil_of_le (by rw [bI_len]; omega)] at h
  cases h
theorem at_end {s : ByteArray} {k : Nat} (h : (bI s).drop k = []) (hk : k ≤ s.size) : k = s.size := by
 by_cases h2 : k < s.size
 ·rw [bI_drop s k h2] at h; cases h
 ·omega
def lowI (c : Int) : Int := if c / 32 % 2 = 0 then c + 32 else c
theorem low_all : (List.range 256).all (fun c => bits .or .u8 (c : Int) 32 == lowI (c : Int)) = true := by kernel_rfl
theorem lower171 (c : Int) (hc : 0 ≤ c ∧ c ≤ 255) (w : World) : Calls Tryz.prog 171 #[.int .u8 c] w fun e w' => e = .returned (.int .u8 (lowI c)) ∧ w = w' := by
 refine (Tryz.internal_strconv_lower c w).mono ?_
 rintro e w' ⟨rfl, rfl⟩
 have h := List.all_eq_true.1 low_all c.toNat (List.mem_range.2 (by omega))
 simp only [beq_iff_eq] at h
 rw [show ((c.toNat : Nat) : Int) = c by omega] at h
 rw [h]
 exact ⟨rfl, rfl⟩
theorem dig_b {h : Bool} {c : Int} (hc : pD h c = true) : 48 ≤ c ∧ c ≤ 102 ∧ c ≠ 95 ∧ c ≠ 46 := by
 cases h
 ·have := isD_iff.1 hc; omega
 ·have := isH_iff.1 hc; omega
structure RF (s : ByteArray) (g : Fig) (k : Nat) (D : List Int) (f : Option Nat) (q : Int) : Prop where
 le : k ≤ s.size
 gt : gth g.hex ((bI s).drop k) D f = (g.D, (if g.dot then some g.F.length else none), g.U)
 len : D.length ≤ k
 dig : ∀ c ∈ D, pD g.hex c = true
 q0 : f = none → -(k : Int) ≤ q ∧ q ≤ 0
 q1 : ∀ n, f = some n → q = (kN D : Int) - (n : Int) ∧ n ≤ k
theorem kN_le (D : List Int) : kN D ≤ D.length := by
 unfold kN dropZ
 exact (List.dropWhile_suffix (fun c => c == 48)).length_le
theorem RF.bd {s : ByteArray} {g : Fig} {k : Nat} {D : List Int} {f : Option Nat} {q : Int} (h : RF s g k D f q) (hs : s.size ≤ 64) : -64 ≤ q ∧ q ≤ 64 ∧ kN D ≤ k := by
 have h1 := h.le
 have h2 := h.len
 have h3 := kN_le D
 cases f with
 | none => have := h.q0 rfl; omega
 | some n => have := h.q1 n rfl; omega
theorem RF.step {s : ByteArray} {g : Fig} {k : Nat} {D : List Int} {f : Option Nat} {q q' : Int} {c : Int} {r : List Int} (h : RF s g k D f q) (hd : (bI s).drop k = c :: r) (hc : pD g.hex c = true) (hr : (bI s).drop (k + 1) = r) (hk : k < s.size)
  (hq : q' = if kN D = 0 ∧ c = 48 then q - 1 else q) : RF s g (k + 1) (D ++ [c]) (f.map (· + 1)) q' := by
 have hN : kN (D ++ [c]) = if kN D = 0 ∧ c = 48 then 0 else kN D + 1 := by
  by_cases h0 : kN D = 0 ∧ c = 48
  ·rw [if_pos h0, h0.2, (k_zero (B := 10) (mx := 19) h0.1).2.1, h0.1]
  ·rw [if_neg h0]
   exact (k_more (B := 10) (mx := 19) (by by_cases h1 : kN D = 0; exact Or.inr (fun e => h0 ⟨h1, e⟩); exact Or.inl h1)).1
 refine ⟨hk, ?_, ?_, ?_, ?_, ?_⟩
 ·have := h.gt
  rw [hd, gth, if_pos hc] at this
  rw [hr]; exact this
 ·have := h.len; simp; omega
 ·intro x hx
  rcases List.mem_append.1 hx with h1 | h1
  ·exact h.dig x h1
  ·rw [List.mem_singleton.1 h1]; exact hc
 ·intro e
  have := h.q0 (by cases f <;> simp at e ⊢)
  rw [hq]; split <;> omega
 ·intro n e
  cases f with
  | none => simp at e
  | some m =>
   simp at e
   have h1 := h.q1 m rfl
   subst e
   rw [hq, hN]
   constructor
   ·split <;> omega
   ·omega
theorem RF.point {s : ByteArray} {g : Fig} {k : Nat} {D : List Int} {q : Int} {r : List Int} (h : RF s g k D none q) (hd : (bI s).drop k = 46 :: r) (hr : (bI s).drop (k + 1) = r) (hk : k < s.size) : RF s g (k + 1) D (some 0) (kN D : Int) := by
 refine ⟨hk, ?_, ?_, h.dig, (fun e => nomatch e), ?_⟩
 ·have := h.gt
  rw [hd, gth, if_neg (by cases g.hex <;> decide), if_pos ⟨rfl, rfl⟩] at this
  rw [hr]; exact this
 ·have := h.len; omega
 ·intro n e
  injection e with e
  subst e
  exact ⟨by omega, by omega⟩
theorem RF.stop {s : ByteArray} {g : Fig} {k : Nat} {D : List Int} {f : Option Nat} {q : Int} (h : RF s g k D f q) (hst : (bI s).drop k = [] ∨ ∃ c r, (bI s).drop k = c :: r ∧ pD g.hex c = false ∧ ¬ (c = 46 ∧ f = none)) : D = g.D ∧ f = (if g.dot then some g.F.length else none) ∧ (bI s).drop k = g.U := by
 have := h.gt
 rcases hst with e | ⟨c, r, e, h1, h2⟩
 ·rw [e] at this ⊢
  rw [gth] at this
  injection this with a b
  injection b with b c
  exact ⟨a, b, c⟩
 ·rw [e] at this ⊢
  rw [gth, if_neg (by rw [h1]; decide), if_neg h2] at this
  injection this with a b
  injection b with b c
  exact ⟨a, b, c⟩
theorem D_le {s : ByteArray} {g : Fig} (hg : g.Ok) (ht : bI s = g.txt) : g.D.length ≤ s.size := by
 have hz := hg.zF
 rw [← bI_len, ht]
 unfold Fig.txt Fig.N Fig.T Fig.D
 cases hd : g.dot
 ·rw [hz hd]
  cases g.neg <;> cases g.hex <;> simp [List.length_append] <;> omega
 ·cases g.neg <;> cases g.hex <;> simp [List.length_append] <;> omega
theorem zF_len {g : Fig} (hg : g.Ok) (h : g.dot = false) : g.F.length = 0 := by rw [hg.zF h]; rfl
theorem next_ok {s : ByteArray} {g : Fig} (hg : g.Ok) (hh : g.hex = false) {k : Nat} (hd : (bI s).drop k = g.I ++ g.T) (h1 : k + 1 < s.size) : lowI (s[k + 1].toNat : Int) ≠ 120 ∧ 0 ≤ (s[k + 1].toNat : Int) ∧ (s[k + 1].toNat : Int) ≤ 255 := by
 have hb : 0 ≤ (s[k + 1].toNat : Int) ∧ (s[k + 1].toNat : Int) ≤ 255 := by have := s[k + 1].toNat_lt; omega
 refine ⟨?_, hb⟩
 cases hI : g.I with
 | nil => exact absurd hI hg.nI
 | cons a r =>
  rw [hI, List.cons_append] at hd
  obtain ⟨l0, e0, d0⟩ := at_k hd
  rw [bI_drop s (k + 1) h1] at d0
  generalize (s[k + 1].toNat : Int) = c at *
  have key : (48 ≤ c ∧ c ≤ 57) ∨ c = 46 ∨ c = 101 ∨ c = 69 := by
   cases r with
   | cons b r2 =>
    rw [List.cons_append] at d0
    injection d0 with d1 d2
    have := hg.pI b (by rw [hI]; simp)
    rw [hh] at this
    rw [d1]
    exact Or.inl (isD_iff.1 this)
   | nil =>
    rw [List.nil_append] at d0
    unfold Fig.T at d0
    by_cases hdot : g.dot = true
    ·rw [if_pos hdot] at d0
     injection d0 with d1 d2
     exact Or.inr (Or.inl d1)
    ·rw [if_neg hdot] at d0
     unfold Fig.U at d0
     by_cases he : g.ex = true
     ·rw [if_pos he] at d0
      injection d0 with d1 d2
      rcases hg.hm with ⟨m1, m2⟩ | ⟨m1, m2⟩
      ·rw [hh] at m2; cases m2
      ·rw [d1]; exact Or.inr (Or.inr m1)
     ·rw [if_neg he] at d0; cases d0
  unfold lowI
  split <;> omega
def L194b (s : ByteArray) (g : Fig) (w : World) (i un e : Value) (wr : World) : Prop := ∃ (k n : Nat) (r : List Int), i = .int .i64 k ∧ un = .bool false ∧ e = .int .i64 n ∧ Hid ((bI s).drop k = r ∧ (∀ c ∈ r, isD c = true) ∧ satE 10000 r n = satE 10000 g.E 0 ∧ k ≤ s.size) ∧ n < 100000 ∧ wr = w
theorem frame253 (a : Act) (hd : a.defers = []) (hs : a.tmps.size = 253) : ∃ u : Nat → Value, (∀ i, u i = a.tmps.getD i undef) ∧ a = { tmps := #[u 0, u 1, u 2, u 3, u 4, u 5, u 6, u 7, u 8, u 9, u 10, u 11, u 12, u 13, u 14, u 15, u 16, u 17, u 18, u 19, u 20, u 21, u 22, u 23, u 24, u 25, u 26, u 27, u 28, u 29, u 30, u 31, u 32, u 33, u 34, u 35, u 36, u 37, u 38, u 39, u 40, u 41, u 42, u 43, u 44, u 45, u 46, u 47, u 48, u 49, u 50, u 51, u 52, u 53, u 54, u 55, u 56, u 57, u 58, u 59, u 60, u 61, u 62, u 63, u 64, u 65, u 66, u 67, u 68, u 69, u 70, u 71, u 72, u 73, u 74, u 75, u 76, u 77, u 78, u 79, u 80, u 81, u 82, u 83, u 84, u 85, u 86, u 87, u 88, u 89, u 90, u 91, u 92, u 93, u 94, u 95, u 96, u 97, u 98, u 99, u 100, u 101, u 102, u 103, u 104, u 105, u 106, u 107, u 108, u 109, u 110, u 111, u 112, u 113, u 114, u 115, u 116, u 117, u 118, u 119, u 120, u 121, u 122, u 123, u 124, u 125, u 126, u 127, u 128, u 129, u 130, u 131, u 132, u 133, u 134, u 135, u 136, u 137, u 138, u 139, u 140, u 141, u 142, u 143, u 144, u 145, u 146, u 147, u 148, u 149, u 150, u 151, u 152, u 153, u 154, u 155, u 156, u 157, u 158, u 159, u 160, u 161, u 162, u 163, u 164, u 165, u 166, u 167, u 168, u 169, u 170, u 171, u 172, u 173, u 174, u 175, u 176, u 177, u 178, u 179, u 180, u 181, u 182, u 183, u 184, u 185, u 186, u 187, u 188, u 189, u 190, u 191, u 192, u 193, u 194, u 195, u 196, u 197, u 198, u 199, u 200, u 201, u 202, u 203, u 204, u 205, u 206, u 207, u 208, u 209, u 210, u 211, u 212, u 213, u 214, u 215, u 216, u 217, u 218, u 219, u 220, u 221, u 222, u 223, u 224, u 225, u 226, u 227, u 228, u 229, u 230, u 231, u 232, u 233, u 234, u 235, u 236, u 237, u 238, u 239, u 240, u 241, u 242, u 243, u 244, u 245, u 246, u 247, u 248, u 249, u 250, u 251, u 252], defers := [] } := by
 refine ⟨fun i => a.tmps.getD i undef, fun _ => rfl, ?_⟩
 obtain ⟨t, d⟩ := a
 simp only at hd hs
 subst hd
 congr 1
 have e : t = ((List.range 253).map fun i => t.getD i undef).toArray := by
  apply Array.ext
  ·simp [hs]
  ·intro i h1 h2
   simp [Array.getD, h1]
 exact e.trans (by kernel_rfl)
def L194 (s : ByteArray) (g : Fig) (w : World) (m tr i un sd sg nd nm dp : Value) (wr : World) : Prop := ∃ (k : Nat) (D : List Int) (f : Option Nat) (q : Int), m = .int .u64 (kM g.C g.mx D) ∧ tr = .bool (kT g.mx D) ∧ i = .int .i64 k ∧ un = .bool false ∧ sd = .bool f.isSome ∧ sg = .bool (decide (D ≠ [])) ∧ nd = .int .i64 (kN D) ∧ nm = .int .i64 (kK g.mx D) ∧ dp = .int .i64 q ∧ Hid (RF s g k D f q) ∧ wr = w
def E194 (g : Fig) (n : Nat) (e : Ending) : Prop := e = .returned (.tuple #[.int .u64 g.d, .int .i64 (if g.d = 0 then 0 else g.e), .bool g.neg, .bool g.t, .bool g.hex, .int .i64 n, .bool true])
theorem read194 (s : ByteArray) (hs : s.size ≤ 64) (g : Fig) (hg : g.Ok) (ht : bI s = g.txt) (w : World) : Calls Tryz.prog 194 #[.string s] w fun e w' => E194 g s.size e ∧ w = w' := by
 obtain ⟨R, hR⟩ : ∃ R : Ending → Prop, R = E194 g s.size := ⟨_, rfl⟩
 rw [← hR]
 replace hR := hid hR
 obtain ⟨ec, hec⟩ : ∃ ec : Int, ec = if g.hex then 112 else 101 := ⟨_, rfl⟩
 replace hec := hid hec
 have hb64 : kN g.D ≤ 64 ∧ g.F.length ≤ 64 := by
  have h1 := kN_le g.D
  have h2 : g.D.length = g.I.length + g.F.length := by simp [Fig.D]
  have h3 : g.D.length ≤ s.size := D_le hg ht
  omega
 go_enter Tryz.func194, Tryz.ntmps194
 go_wp2_with fail
 refine jumps 0 (fun a' w' => ∃ k : Nat, k ≤ s.size ∧ (bI s).drop k = g.I ++ g.T ∧ a'.defers = [] ∧ a'.tmps.size = 253 ∧ a'.tmps.getD 0 undef = .string s ∧ a'.tmps.getD 1 undef = undef ∧ a'.tmps.getD 2 undef = .int .u64 0 ∧ a'.tmps.getD 3 undef = .int .i64 0 ∧ a'.tmps.getD 4 undef = .bool g.neg ∧ a'.tmps.getD 5 undef = .bool false ∧ a'.tmps.getD 6 undef = .bool g.hex ∧ a'.tmps.getD 7 undef = .int .i64 k ∧ a'.tmps.getD 8 undef = .bool false ∧ a'.tmps.getD 9 undef = .bool false ∧ a'.tmps.getD 10 undef = .int .u64 g.C ∧ a'.tmps.getD 11 undef = .int .i64 g.mx ∧ a'.tmps.getD 12 undef = .int .u8 ec ∧ a'.tmps.getD 13 undef = .bool false ∧ a'.tmps.getD 14 undef = .bool false ∧ a'.tmps.getD 15 undef = .int .i64 0 ∧ a'.tmps.getD 16 undef = .int .i64 0 ∧ a'.tmps.getD 17 undef = .int .i64 0 ∧ w = w') (fun _ _ => 0) rfl ?first ?pass
 case first =>
  intro pass
  have pass' := hid pass
  clear pass
  have hI : ∃ c r, g.I = c :: r ∧ pD g.hex c = true := by
   have h1 := hg.nI
   have h2 := hg.pI
   cases hc : g.I with
   | nil => exact absurd hc h1
   | cons c r => exact ⟨c, r, rfl, h2 c (by rw [hc]; exact List.mem_cons_self)⟩
  obtain ⟨c, r, hI1, hI2⟩ := hI
  have hIb := dig_b hI2
  have hIb1 : 48 ≤ c := hIb.1
  have hin : ∀ (k : Nat), (bI s).drop k = g.I ++ g.T → ∃ l0 : k < s.size, (s[k].toNat : Int) = c := by
   intro k hd
   rw [hI1, List.cons_append] at hd
   obtain ⟨l0, e0, _⟩ := at_k hd
   exact ⟨l0, e0⟩
  have hlo20 : ∀ w, Calls Tryz.prog 171 #[.int .u8 120] w fun e w' => e = .returned (.int .u8 120) ∧ w = w' := fun w => lower171 120 (by omega) w
  replace hlo20 := hid hlo20
  replace hin := hid hin
  cases hn : g.neg <;> cases hh : g.hex
  ·have hd : (bI s).drop 0 = g.I ++ g.T := by
    rw [ht, Fig.txt, hn, Fig.N, hh]
    rfl
   obtain ⟨l0, e0⟩ := hin.out 0 hd
   have hnx := next_ok hg hh hd
   replace hd := hid hd
   have hC : ((g.C : Nat) : Int) = 10 := by unfold Fig.C; rw [hh]; rfl
   have hX : ((g.mx : Nat) : Int) = 19 := by unfold Fig.mx; rw [hh]; rfl
   have hE : ec = 101 := by rw [hec.out, hh]; rfl
   replace hE := hid hE
   replace hC := hid hC
   replace hX := hid hX
   have b43 : (c == 43) = false := bne_of (by omega)
   have b45 : (c == 45) = false := bne_of (by omega)
   have hne : ¬ s = ByteArray.empty := by rintro rfl; simp at l0
   by_cases h2 : 0 + 2 < s.size
   ·have hx2 : (0 : Int) + 2 < (s.size : Int) := by omega
    obtain ⟨hn1, hn2, hn3⟩ := hnx (by omega)
    obtain ⟨c2, hc2⟩ : ∃ c2, c2 = (s[0 + 1].toNat : Int) := ⟨_, rfl⟩
    rw [← hc2] at hn1 hn2 hn3
    have hc2' : (s[0 + 1].toNat : Int) = c2 := hc2.symm
    have hlo := fun w => lower171 c2 ⟨hn2, hn3⟩ w
    obtain ⟨lo, hlo2⟩ : ∃ lo, lo = lowI c2 := ⟨_, rfl⟩
    simp only [← hlo2] at hlo
    rw [← hlo2] at hn1
    have b120 : (lo == 120) = false := bne_of hn1
    replace hlo := hid hlo
    replace hlo2 := hid hlo2
    replace hc2 := hid hc2
    clear hnx hn1
    by_cases h48 : c = 48
    ·subst h48
     go_wp2_with (go_at_call 171; refine (hlo.out _).mono ?_; rintro e w1 ⟨rfl, rfl⟩)
     go_step3
     simp only [Exit.then]
     first | (rename_i hk0; refine hk0 _ _ ?_) | (rename_i hk0 _; refine hk0 _ _ ?_)
     exact wp_mono (pass'.out _ _ ⟨0, by omega, hd.out, rfl, rfl, rfl, rfl, rfl, rfl, (by first | rfl | (rw [hn]; rfl)), rfl, (by first | rfl | (rw [hh]; rfl)), by first | rfl | go_num, rfl, rfl, (by first | rfl | exact val_int hC.out.symm), (by first | rfl | exact val_int hX.out.symm), (by first | rfl | exact val_int hE.out.symm), rfl, rfl, rfl, rfl, rfl, rfl⟩) (fun e a w h => by rw [hn, hh] at h; cases e <;> first | exact h | exact ⟨h.1, h.2.1⟩)
    ·have b48 : (c == 48) = false := bne_of h48
     go_wp2_with fail
     go_step3
     simp only [Exit.then]
     first | (rename_i hk0; refine hk0 _ _ ?_) | (rename_i hk0 _; refine hk0 _ _ ?_)
     exact wp_mono (pass'.out _ _ ⟨0, by omega, hd.out, rfl, rfl, rfl, rfl, rfl, rfl, (by first | rfl | (rw [hn]; rfl)), rfl, (by first | rfl | (rw [hh]; rfl)), by first | rfl | go_num, rfl, rfl, (by first | rfl | exact val_int hC.out.symm), (by first | rfl | exact val_int hX.out.symm), (by first | rfl | exact val_int hE.out.symm), rfl, rfl, rfl, rfl, rfl, rfl⟩) (fun e a w h => by rw [hn, hh] at h; cases e <;> first | exact h | exact ⟨h.1, h.2.1⟩)
   ·have hx2 : ¬ (2 : Int) < (s.size : Int) := by omega
    clear hnx
    go_wp2_with fail
    go_step3
    simp only [Exit.then]
    first | (rename_i hk0; refine hk0 _ _ ?_) | (rename_i hk0 _; refine hk0 _ _ ?_)
    exact wp_mono (pass'.out _ _ ⟨0, by omega, hd.out, rfl, rfl, rfl, rfl, rfl, rfl, (by first | rfl | (rw [hn]; rfl)), rfl, (by first | rfl | (rw [hh]; rfl)), by first | rfl | go_num, rfl, rfl, (by first | rfl | exact val_int hC.out.symm), (by first | rfl | exact val_int hX.out.symm), (by first | rfl | exact val_int hE.out.symm), rfl, rfl, rfl, rfl, rfl, rfl⟩) (fun e a w h => by rw [hn, hh] at h; cases e <;> first | exact h | exact ⟨h.1, h.2.1⟩)
  ·have hd : (bI s).drop 0 = 48 :: 120 :: (g.I ++ g.T) := by
    rw [ht, Fig.txt, hn, Fig.N, hh]
    rfl
   obtain ⟨l0, e0, d0⟩ := at_k hd
   obtain ⟨l1, e1, d1⟩ := at_k d0
   obtain ⟨l2, e2⟩ := hin.out 2 d1
   clear hd d0
   have hd := hid d1
   clear d1
   have hC : ((g.C : Nat) : Int) = 16 := by unfold Fig.C; rw [hh]; rfl
   have hX : ((g.mx : Nat) : Int) = 16 := by unfold Fig.mx; rw [hh]; rfl
   have hE : ec = 112 := by rw [hec.out, hh]; rfl
   replace hE := hid hE
   replace hC := hid hC
   replace hX := hid hX
   have hne : ¬ s = ByteArray.empty := by rintro rfl; simp at l0
   have hx2 : (0 : Int) + 2 < (s.size : Int) := by omega
   go_wp2_with (go_at_call 171; refine (hlo20.out _).mono ?_; rintro e w1 ⟨rfl, rfl⟩)
   go_step3
   simp only [Exit.then]
   first | (rename_i hk0; refine hk0 _ _ ?_) | (rename_i hk0 _; refine hk0 _ _ ?_)
   exact wp_mono (pass'.out _ _ ⟨2, by omega, hd.out, rfl, rfl, rfl, rfl, rfl, rfl, (by first | rfl | (rw [hn]; rfl)), rfl, (by first | rfl | (rw [hh]; rfl)), by first | rfl | go_num, rfl, rfl, (by first | rfl | exact val_int hC.out.symm), (by first | rfl | exact val_int hX.out.symm), (by first | rfl | exact val_int hE.out.symm), rfl, rfl, rfl, rfl, rfl, rfl⟩) (fun e a w h => by rw [hn, hh] at h; cases e <;> first | exact h | exact ⟨h.1, h.2.1⟩)
  ·have hd : (bI s).drop 1 = g.I ++ g.T := by
    rw [ht, Fig.txt, hn, Fig.N, hh]
    rfl
   obtain ⟨l0, e0⟩ := hin.out 1 hd
   have hnx := next_ok hg hh hd
   have e45 : (s[0].toNat : Int) = 45 := by
    have h0 : (bI s).drop 0 = 45 :: g.N := by rw [List.drop_zero, ht, Fig.txt, hn]; rfl
    obtain ⟨_, e, _⟩ := at_k h0
    exact e
   replace hd := hid hd
   have hC : ((g.C : Nat) : Int) = 10 := by unfold Fig.C; rw [hh]; rfl
   have hX : ((g.mx : Nat) : Int) = 19 := by unfold Fig.mx; rw [hh]; rfl
   have hE : ec = 101 := by rw [hec.out, hh]; rfl
   replace hE := hid hE
   replace hC := hid hC
   replace hX := hid hX
   have b43 : (c == 43) = false := bne_of (by omega)
   have b45 : (c == 45) = false := bne_of (by omega)
   have hne : ¬ s = ByteArray.empty := by rintro rfl; simp at l0
   by_cases h2 : 1 + 2 < s.size
   ·have hx2 : (1 : Int) + 2 < (s.size : Int) := by omega
    obtain ⟨hn1, hn2, hn3⟩ := hnx (by omega)
    obtain ⟨c2, hc2⟩ : ∃ c2, c2 = (s[1 + 1].toNat : Int) := ⟨_, rfl⟩
    rw [← hc2] at hn1 hn2 hn3
    have hc2' : (s[1 + 1].toNat : Int) = c2 := hc2.symm
    have hlo := fun w => lower171 c2 ⟨hn2, hn3⟩ w
    obtain ⟨lo, hlo2⟩ : ∃ lo, lo = lowI c2 := ⟨_, rfl⟩
    simp only [← hlo2] at hlo
    rw [← hlo2] at hn1
    have b120 : (lo == 120) = false := bne_of hn1
    replace hlo := hid hlo
    replace hlo2 := hid hlo2
    replace hc2 := hid hc2
    clear hnx hn1
    by_cases h48 : c = 48
    ·subst h48
     go_wp2_with (go_at_call 171; refine (hlo.out _).mono ?_; rintro e w1 ⟨rfl, rfl⟩)
     go_step3
     simp only [Exit.then]
     first | (rename_i hk0; refine hk0 _ _ ?_) | (rename_i hk0 _; refine hk0 _ _ ?_)
     exact wp_mono (pass'.out _ _ ⟨1, by omega, hd.out, rfl, rfl, rfl, rfl, rfl, rfl, (by first | rfl | (rw [hn]; rfl)), rfl, (by first | rfl | (rw [hh]; rfl)), by first | rfl | go_num, rfl, rfl, (by first | rfl | exact val_int hC.out.symm), (by first | rfl | exact val_int hX.out.symm), (by first | rfl | exact val_int hE.out.symm), rfl, rfl, rfl, rfl, rfl, rfl⟩) (fun e a w h => by rw [hn, hh] at h; cases e <;> first | exact h | exact ⟨h.1, h.2.1⟩)
    ·have b48 : (c == 48) = false := bne_of h48
     go_wp2_with fail
     go_step3
     simp only [Exit.then]
     first | (rename_i hk0; refine hk0 _ _ ?_) | (rename_i hk0 _; refine hk0 _ _ ?_)
     exact wp_mono (pass'.out _ _ ⟨1, by omega, hd.out, rfl, rfl, rfl, rfl, rfl, rfl, (by first | rfl | (rw [hn]; rfl)), rfl, (by first | rfl | (rw [hh]; rfl)), by first | rfl | go_num, rfl, rfl, (by first | rfl | exact val_int hC.out.symm), (by first | rfl | exact val_int hX.out.symm), (by first | rfl | exact val_int hE.out.symm), rfl, rfl, rfl, rfl, rfl, rfl⟩) (fun e a w h => by rw [hn, hh] at h; cases e <;> first | exact h | exact ⟨h.1, h.2.1⟩)
   ·have hx2 : ¬ (3 : Int) < (s.size : Int) := by omega
    clear hnx
    go_wp2_with fail
    go_step3
    simp only [Exit.then]
    first | (rename_i hk0; refine hk0 _ _ ?_) | (rename_i hk0 _; refine hk0 _ _ ?_)
    exact wp_mono (pass'.out _ _ ⟨1, by omega, hd.out, rfl, rfl, rfl, rfl, rfl, rfl, (by first | rfl | (rw [hn]; rfl)), rfl, (by first | rfl | (rw [hh]; rfl)), by first | rfl | go_num, rfl, rfl, (by first | rfl | exact val_int hC.out.symm), (by first | rfl | exact val_int hX.out.symm), (by first | rfl | exact val_int hE.out.symm), rfl, rfl, rfl, rfl, rfl, rfl⟩) (fun e a w h => by rw [hn, hh] at h; cases e <;> first | exact h | exact ⟨h.1, h.2.1⟩)
  ·have hd : (bI s).drop 1 = 48 :: 120 :: (g.I ++ g.T) := by
    rw [ht, Fig.txt, hn, Fig.N, hh]
    rfl
   obtain ⟨l0, e0, d0⟩ := at_k hd
   obtain ⟨l1, e1, d1⟩ := at_k d0
   obtain ⟨l2, e2⟩ := hin.out 3 d1
   have e45 : (s[0].toNat : Int) = 45 := by
    have h0 : (bI s).drop 0 = 45 :: g.N := by rw [List.drop_zero, ht, Fig.txt, hn]; rfl
    obtain ⟨_, e, _⟩ := at_k h0
    exact e
   clear hd d0
   have hd := hid d1
   clear d1
   have hC : ((g.C : Nat) : Int) = 16 := by unfold Fig.C; rw [hh]; rfl
   have hX : ((g.mx : Nat) : Int) = 16 := by unfold Fig.mx; rw [hh]; rfl
   have hE : ec = 112 := by rw [hec.out, hh]; rfl
   replace hE := hid hE
   replace hC := hid hC
   replace hX := hid hX
   have hne : ¬ s = ByteArray.empty := by rintro rfl; simp at l0
   have hx2 : (1 : Int) + 2 < (s.size : Int) := by omega
   go_wp2_with (go_at_call 171; refine (hlo20.out _).mono ?_; rintro e w1 ⟨rfl, rfl⟩)
   go_step3
   simp only [Exit.then]
   first | (rename_i hk0; refine hk0 _ _ ?_) | (rename_i hk0 _; refine hk0 _ _ ?_)
   exact wp_mono (pass'.out _ _ ⟨3, by omega, hd.out, rfl, rfl, rfl, rfl, rfl, rfl, (by first | rfl | (rw [hn]; rfl)), rfl, (by first | rfl | (rw [hh]; rfl)), by first | rfl | go_num, rfl, rfl, (by first | rfl | exact val_int hC.out.symm), (by first | rfl | exact val_int hX.out.symm), (by first | rfl | exact val_int hE.out.symm), rfl, rfl, rfl, rfl, rfl, rfl⟩) (fun e a w h => by rw [hn, hh] at h; cases e <;> first | exact h | exact ⟨h.1, h.2.1⟩)
 case pass =>
  rintro a w0 ⟨k, hk, hdr, hd0, hz0, f0, f1, f2, f3, f4, f5, f6, f7, f8, f9, f10, f11, f12, f13, f14, f15, f16, f17, rfl⟩
  obtain ⟨u, hu, ha⟩ := frame253 a hd0 hz0
  rw [(hu 0).trans f0, (hu 1).trans f1, (hu 2).trans f2, (hu 3).trans f3, (hu 4).trans f4, (hu 5).trans f5, (hu 6).trans f6, (hu 7).trans f7, (hu 8).trans f8, (hu 9).trans f9, (hu 10).trans f10, (hu 11).trans f11, (hu 12).trans f12, (hu 13).trans f13, (hu 14).trans f14, (hu 15).trans f15, (hu 16).trans f16, (hu 17).trans f17] at ha
  clear f0 f1 f2 f3 f4 f5 f6 f7 f8 f9 f10 f11 f12 f13 f14 f15 f16 f17 hu hd0 hz0
  subst ha
  refine cut_seq (fun a' w' => ∃ (k : Nat) (q : Int), k ≤ s.size ∧ (bI s).drop k = g.U ∧ (-64 ≤ q ∧ q ≤ 64) ∧ (g.dot = true → q = (kN g.D : Int) - (g.F.length : Int)) ∧ a'.defers = [] ∧ a'.tmps.size = 253 ∧ a'.tmps.getD 0 undef = .string s ∧ a'.tmps.getD 1 undef = undef ∧ a'.tmps.getD 2 undef = .int .u64 (kM g.C g.mx g.D) ∧ a'.tmps.getD 3 undef = .int .i64 0 ∧ a'.tmps.getD 4 undef = .bool g.neg ∧ a'.tmps.getD 5 undef = .bool g.t ∧ a'.tmps.getD 6 undef = .bool g.hex ∧ a'.tmps.getD 7 undef = .int .i64 k ∧ a'.tmps.getD 8 undef = .bool false ∧ a'.tmps.getD 9 undef = .bool false ∧ a'.tmps.getD 10 undef = .int .u64 g.C ∧ a'.tmps.getD 11 undef = .int .i64 g.mx ∧ a'.tmps.getD 12 undef = .int .u8 ec ∧ a'.tmps.getD 13 undef = .bool g.dot ∧ a'.tmps.getD 14 undef = .bool true ∧ a'.tmps.getD 15 undef = .int .i64 (kN g.D) ∧ a'.tmps.getD 16 undef = .int .i64 (kK g.mx g.D) ∧ a'.tmps.getD 17 undef = .int .i64 q ∧ w = w') ?h1 ?h2
  case h1 =>
   intro K hK
   have hK' := hid hK
   clear hK
   go_wp2_with fail
   go_loopw [2, 5, 7, 9, 13, 14, 15, 16, 17] (fun m tr i un sd sg nd nm dp wr => L194 s g w m tr i un sd sg nd nm dp wr) (fun _ _ i _ _ _ _ _ _ _ => s.size - (intOf i).toNat)
   case atStart => exact ⟨k, [], none, 0, by simp [kM, dropZ, gat_nil], by simp [kT, dropZ], rfl, rfl, rfl, by simp, by simp [kN, dropZ], by simp [kK, kN, dropZ], rfl, hid ⟨hk, by rw [hdr]; exact gth_fig hg, by simp, by simp, fun _ => by omega, fun n e => nomatch e⟩, rfl⟩
   case round =>
    obtain ⟨k2, D, f, q, rfl, rfl, rfl, rfl, rfl, rfl, rfl, rfl, rfl, hF, rfl⟩ := hrel
    have hbd := hF.out.bd hs
    have hle := hF.out.le
    have hlt64 := k_lt (h := g.hex) (B := g.C) (mx := g.mx) rfl hF.out.dig
    have hkK : kK g.mx D ≤ kN D := by unfold kK; omega
    have hd := hF.out.dig
    obtain ⟨M, hM⟩ : ∃ M, M = kM g.C g.mx D := ⟨_, rfl⟩
    obtain ⟨Nn, hN⟩ : ∃ Nn, Nn = kN D := ⟨_, rfl⟩
    obtain ⟨Kp, hKp⟩ : ∃ Kp, Kp = kK g.mx D := ⟨_, rfl⟩
    obtain ⟨T, hT⟩ : ∃ T, T = kT g.mx D := ⟨_, rfl⟩
    obtain ⟨S, hS⟩ : ∃ S : Bool, S = decide (D ≠ []) := ⟨_, rfl⟩
    rw [← hM, ← hN, ← hKp, ← hT, ← hS]
    rw [← hM, ← hKp] at hlt64
    rw [← hN] at hbd
    rw [← hN, ← hKp] at hkK
    replace hM := hid hM
    replace hN := hid hN
    replace hKp := hid hKp
    replace hT := hid hT
    replace hS := hid hS
    have hbd1 : -64 ≤ q := hbd.1
    have hbd2 : q ≤ 64 := hbd.2.1
    have hbd3 : Nn ≤ k2 := hbd.2.2
    clear hbd
    cases hrest : (bI s).drop k2 with
    | nil =>
     obtain rfl := at_end hrest hle
     obtain ⟨eD, ef, eU⟩ := hF.out.stop (Or.inl hrest)
     have hfs : f.isSome = g.dot := by rw [ef]; cases g.dot <;> rfl
     have hqd : g.dot = true → q = (kN g.D : Int) - (g.F.length : Int) := fun e => eD ▸ (hF.out.q1 g.F.length (by rw [ef, if_pos e])).1
     have hSt : S = true := by
      rw [hS.out, eD]
      have := hg.nI
      simp only [ne_eq, decide_not, Bool.not_eq_true', decide_eq_false_iff_not]
      intro e
      rcases List.append_eq_nil_iff.1 e with ⟨e1, e2⟩
      exact this e1
     obtain rfl : M = kM g.C g.mx g.D := by rw [hM.out, eD]
     obtain rfl : T = g.t := by rw [hT.out, eD]; rfl
     obtain rfl : Nn = kN g.D := by rw [hN.out, eD]
     obtain rfl : Kp = kK g.mx g.D := by rw [hKp.out, eD]
     rw [hfs, hSt]
     replace hqd := hid hqd
     replace eU := hid eU
     clear hM hT hN hKp hS hfs hSt eD ef
     clear hlt64 hkK hbd3 hd
     go_wp2_with fail
     exact hK'.out _ _ ⟨_, q, hle, eU.out, ⟨hbd1, hbd2⟩, hqd.out, rfl, rfl, rfl, rfl, rfl, rfl, rfl, rfl, rfl, rfl, rfl, rfl, (by first | rfl | exact val_int hC2.symm), rfl, rfl, rfl, rfl, rfl, rfl, rfl, rfl⟩
    | cons c r =>
     obtain ⟨hlt, hc0, hr⟩ := at_k hrest
     have hxlt : (k2 : Int) < (s.size : Int) := by omega
     have hcb : 0 ≤ c ∧ c ≤ 255 := by have := s[k2].toNat_lt; omega
     by_cases hc : pD g.hex c = true
     ·have hb := dig_b hc
      have n95 : (c == 95) = false := bne_of hb.2.2.1
      have n46 : (c == 46) = false := bne_of hb.2.2.2
      have hS1 : (decide (D ++ [c] ≠ [])) = true := by simp
      have hf1 : f.isSome = (f.map (· + 1)).isSome := by cases f <;> rfl
      have hnx : Hid (∀ q', (q' = if kN D = 0 ∧ c = 48 then q - 1 else q) → RF s g (k2 + 1) (D ++ [c]) (f.map (· + 1)) q') := hid (fun q' hq => hF.out.step hrest hc hr hlt hq)
      have hrs := hid hrest
      have hrr := hid hr
      clear hrest hr
      by_cases hz : Nn = 0 ∧ c = 48
      ·obtain ⟨h1, h2, h3, h4⟩ := k_zero (B := g.C) (mx := g.mx) (D := D) (hN.out.symm.trans hz.1)
       have hz1 := hz.1
       have hz2 := hz.2
       have hfin : L194 s g wr (.int .u64 M) (.bool T) (.int .i64 ((k2 + 1 : Nat) : Int)) (.bool false) (.bool f.isSome) (.bool true) (.int .i64 Nn) (.int .i64 Kp) (.int .i64 (q - 1)) wr := by
        refine ⟨k2 + 1, D ++ [c], f.map (· + 1), q - 1, ?_, ?_, rfl, rfl, by rw [hf1], by rw [hS1], ?_, ?_, rfl, hid (hnx.out _ (by rw [if_pos ⟨hN.out.symm.trans hz1, hz2⟩])), rfl⟩
        ·rw [hz2, h1, hM.out]
        ·rw [hz2, h4, hT.out]
        ·rw [hz2, h2, hN.out]
        ·rw [hz2, h3, hKp.out]
       subst hz1
       subst hz2
       replace hfin := hid hfin
       clear hlt64 hkK h1 h2 h3 h4 hz hb hc hnx hS1 hf1 hd
       go_wp2_with fail
       go_roundw
       case rel => exact hfin.out
       case measure => simp [intOf]; omega
      ·have hz' : kN D ≠ 0 ∨ c ≠ 48 := by
        by_cases h1 : Nn = 0
        ·exact Or.inr (fun e => hz ⟨h1, e⟩)
        ·exact Or.inl (fun e => h1 (hN.out.trans e))
       obtain ⟨h1, h2, h3⟩ := k_more (B := g.C) (mx := g.mx) (D := D) hz'
       have hqs := hid (hnx.out q (by rw [if_neg (fun e => hz ⟨hN.out.trans e.1, e.2⟩)]))
       have hzb : (decide (Nn = 0) && decide (c = 48)) = false := by
        by_cases h1 : Nn = 0
        ·have : c ≠ 48 := fun e => hz ⟨h1, e⟩
         simp [this]
        ·simp [h1]
       by_cases hK2 : Kp < g.mx
       ·obtain ⟨g1, g2, g3⟩ := h2 (hKp.out ▸ hK2)
        have hMC : M * g.C + g.C ≤ 18446744073709551616 := by
         have e1 : (M + 1) * g.C ≤ g.C ^ (Kp + 1) := by rw [Nat.pow_succ]; exact Nat.mul_le_mul_right _ hlt64
         rw [Nat.add_mul, Nat.one_mul] at e1
         have e2 : g.C ^ (Kp + 1) ≤ g.C ^ g.mx := Nat.pow_le_pow_right (by unfold Fig.C; split <;> omega) hK2
         have e3 : g.C ^ g.mx ≤ 18446744073709551616 := by unfold Fig.C Fig.mx; cases g.hex <;> decide
         omega
        have hfin : ∀ m : Int, m = ((M * g.C + hxv c : Nat) : Int) → L194 s g wr (.int .u64 m) (.bool T) (.int .i64 ((k2 + 1 : Nat) : Int)) (.bool false) (.bool f.isSome) (.bool true) (.int .i64 ((Nn : Int) + 1)) (.int .i64 ((Kp : Int) + 1)) (.int .i64 q) wr := by
         intro m hm
         refine ⟨k2 + 1, D ++ [c], f.map (· + 1), q, ?_, ?_, rfl, rfl, by rw [hf1], by rw [hS1], ?_, ?_, rfl, hqs, rfl⟩
         ·rw [g1, hm, hM.out]
         ·rw [g3, hT.out]
         ·rw [h1, hN.out]; rfl
         ·rw [g2, hKp.out]; rfl
        replace hfin := hid hfin
        cases hh : g.hex
        ·have hC : g.C = 10 := by unfold Fig.C; rw [hh]; rfl
         have hX : g.mx = 19 := by unfold Fig.mx; rw [hh]; rfl
         rw [hh] at hc
         have hv := (hxv_9 hc).2
         have hcd := isD_iff.1 hc
         rw [hC] at hMC hfin ⊢
         rw [hX] at hK2 ⊢
         obtain ⟨Mi, hMi⟩ : ∃ Mi : Int, Mi = (M : Int) := ⟨_, rfl⟩
         rw [← hMi]
         have hM0 : 0 ≤ Mi := by omega
         have hM1 : Mi * 10 + 10 ≤ 18446744073709551616 := by omega
         replace hMi := hid hMi
         clear hlt64 hkK h1 h2 h3 g1 g2 g3 hz' hb hc hnx hS1 hf1 hqs hd hC hX hMC
         by_cases h48 : c = 48
         ·subst h48
          have hN0 : ¬ Nn = 0 := fun e => hz ⟨e, rfl⟩
          have bN0 : ((Nn : Int) == 0) = false := bne_of (by omega)
          clear hz hzb
          go_wp2_with fail
          go_roundw
          case rel => exact hfin.out _ (by have := hMi.out; omega)
          case measure => simp [intOf]; omega
         ·have b48 : (c == 48) = false := bne_of h48
          clear hz hzb
          go_wp2_with fail
          go_roundw
          case rel => exact hfin.out _ (by have := hMi.out; omega)
          case measure => simp [intOf]; omega
        ·have hC : g.C = 16 := by unfold Fig.C; rw [hh]; rfl
         have hX : g.mx = 16 := by unfold Fig.mx; rw [hh]; rfl
         rw [hh] at hc
         rw [hC] at hMC hfin ⊢
         rw [hX] at hK2 ⊢
         obtain ⟨Mi, hMi⟩ : ∃ Mi : Int, Mi = (M : Int) := ⟨_, rfl⟩
         rw [← hMi]
         have hM0 : 0 ≤ Mi := by omega
         have hM1 : Mi * 16 + 16 ≤ 18446744073709551616 := by omega
         replace hMi := hid hMi
         by_cases hcd1 : isD c = true
         ·have hv := (hxv_9 hcd1).2
          have hcd := isD_iff.1 hcd1
          clear hlt64 hkK h1 h2 h3 g1 g2 g3 hz' hb hc hnx hS1 hf1 hqs hd hC hX hMC hcd1
          by_cases h48 : c = 48
          ·subst h48
           have hN0 : ¬ Nn = 0 := fun e => hz ⟨e, rfl⟩
           have bN0 : ((Nn : Int) == 0) = false := bne_of (by omega)
           clear hz hzb
           go_wp2_with fail
           go_roundw
           case rel => exact hfin.out _ (by have := hMi.out; omega)
           case measure => simp [intOf]; omega
          ·have b48 : (c == 48) = false := bne_of h48
           clear hz hzb
           go_wp2_with fail
           go_roundw
           case rel => exact hfin.out _ (by have := hMi.out; omega)
           case measure => simp [intOf]; omega
         ·have hcd := isH_iff.1 hc
          have hv : (hxv c : Int) = lowI c - 97 + 10 ∧ 97 ≤ lowI c ∧ lowI c ≤ 102 := by
           have h9 : ¬ (48 ≤ c ∧ c ≤ 57) := fun e => hcd1 (isD_iff.2 e)
           unfold hxv lowI
           rw [if_neg hcd1]
           split <;> split <;> omega
          have n48 : ¬ (c ≤ 57) := by have h9 : ¬ (48 ≤ c ∧ c ≤ 57) := fun e => hcd1 (isD_iff.2 e); omega
          have hlo := fun w => lower171 c hcb w
          obtain ⟨lo, hlo2⟩ : ∃ lo, lo = lowI c := ⟨_, rfl⟩
          rw [← hlo2] at hv
          simp only [← hlo2] at hlo
          have hv1 := hv.1
          have hv2 : 97 ≤ lo := hv.2.1
          have hv3 : lo ≤ 102 := hv.2.2
          have hb1 : 48 ≤ c := hb.1
          replace hlo := hid hlo
          clear hlt64 hkK h1 h2 h3 g1 g2 g3 hz' hb hc hnx hS1 hf1 hqs hd hC hX hMC hcd1 hcd hv hlo2
          go_wp2_with (go_at_call 171; refine (hlo.out _).mono ?_; rintro e w1 ⟨rfl, rfl⟩)
          refine ⟨?_, ?measure⟩
          repeat apply Exists.intro
          refine ⟨?rel, ?_⟩
          rotate_left
          ·rfl
          case rel => exact hfin.out _ (by have := hMi.out; omega)
          case measure => simp [intOf]; omega
       ·obtain ⟨g1, g2, g3⟩ := h3 (fun e => hK2 (by rw [hKp.out]; exact e))
        have hfin : L194 s g wr (.int .u64 M) (.bool (T || c != 48)) (.int .i64 ((k2 + 1 : Nat) : Int)) (.bool false) (.bool f.isSome) (.bool true) (.int .i64 ((Nn : Int) + 1)) (.int .i64 Kp) (.int .i64 q) wr := by
         refine ⟨k2 + 1, D ++ [c], f.map (· + 1), q, ?_, ?_, rfl, rfl, by rw [hf1], by rw [hS1], ?_, ?_, rfl, hqs, rfl⟩
         ·rw [g1, hM.out]
         ·rw [g3, hT.out]
         ·rw [h1, hN.out]; rfl
         ·rw [g2, hKp.out]
        cases hh : g.hex
        ·have hX : g.mx = 19 := by unfold Fig.mx; rw [hh]; rfl
         rw [hh] at hc
         have hcd := isD_iff.1 hc
         rw [hX] at hK2 ⊢
         have hK3 : ¬ (Kp : Int) < 19 := by omega
         clear hlt64 hkK h1 h2 h3 g1 g2 g3 hz' hb hc hnx hS1 hf1 hqs hd hX
         by_cases h48 : c = 48
         ·subst h48
          have hN0 : ¬ Nn = 0 := fun e => hz ⟨e, rfl⟩
          have bN0 : ((Nn : Int) == 0) = false := bne_of (by omega)
          have e1 : (T || ((48 : Int) != 48)) = T := by simp
          rw [e1] at hfin
          replace hfin := hid hfin
          clear hz hzb
          go_wp2_with fail
          go_roundw
          case rel => exact hfin.out
          case measure => simp [intOf]; omega
         ·have b48 : (c == 48) = false := bne_of h48
          have e1 : (c != 48) = true := by simp [h48]
          rw [e1, Bool.or_true] at hfin
          replace hfin := hid hfin
          clear hz hzb
          go_wp2_with fail
          go_roundw
          case rel => exact hfin.out
          case measure => simp [intOf]; omega
        ·have hC : g.C = 16 := by unfold Fig.C; rw [hh]; rfl
         have hX : g.mx = 16 := by unfold Fig.mx; rw [hh]; rfl
         rw [hh] at hc
         rw [hX] at hK2 ⊢
         rw [hC]
         have hK3 : ¬ (Kp : Int) < 16 := by omega
         by_cases hcd1 : isD c = true
         ·have hcd := isD_iff.1 hcd1
          clear hlt64 hkK h1 h2 h3 g1 g2 g3 hz' hb hc hnx hS1 hf1 hqs hd hC hX hcd1
          by_cases h48 : c = 48
          ·subst h48
           have hN0 : ¬ Nn = 0 := fun e => hz ⟨e, rfl⟩
           have bN0 : ((Nn : Int) == 0) = false := bne_of (by omega)
           have e1 : (T || ((48 : Int) != 48)) = T := by simp
           rw [e1] at hfin
           replace hfin := hid hfin
           clear hz hzb
           go_wp2_with fail
           go_roundw
           case rel => exact hfin.out
           case measure => simp [intOf]; omega
          ·have b48 : (c == 48) = false := bne_of h48
           have e1 : (c != 48) = true := by simp [h48]
           rw [e1, Bool.or_true] at hfin
           replace hfin := hid hfin
           clear hz hzb
           go_wp2_with fail
           go_roundw
           case rel => exact hfin.out
           case measure => simp [intOf]; omega
         ·have hcd := isH_iff.1 hc
          have h9 : ¬ (48 ≤ c ∧ c ≤ 57) := fun e => hcd1 (isD_iff.2 e)
          have hv : 97 ≤ lowI c ∧ lowI c ≤ 102 := by
           unfold lowI
           split <;> omega
          have n48 : ¬ (c ≤ 57) := by omega
          have hlo := fun w => lower171 c hcb w
          obtain ⟨lo, hlo2⟩ : ∃ lo, lo = lowI c := ⟨_, rfl⟩
          rw [← hlo2] at hv
          simp only [← hlo2] at hlo
          have hv2 : 97 ≤ lo := hv.1
          have hv3 : lo ≤ 102 := hv.2
          have hb1 : 48 ≤ c := hb.1
          have e1 : (c != 48) = true := by simp; omega
          rw [e1, Bool.or_true] at hfin
          replace hlo := hid hlo
          replace hfin := hid hfin
          clear hlt64 hkK h1 h2 h3 g1 g2 g3 hz' hb hc hnx hS1 hf1 hqs hd hC hX hcd1 hcd hv hlo2 h9
          go_wp2_with (go_at_call 171; refine (hlo.out _).mono ?_; rintro e w1 ⟨rfl, rfl⟩)
          refine ⟨?_, ?measure⟩
          repeat apply Exists.intro
          refine ⟨?rel, ?_⟩
          rotate_left
          ·rfl
          case rel => exact hfin.out
          case measure => simp [intOf]; omega
     ·have hc' : pD g.hex c = false := by simpa using hc
      by_cases h46 : c = 46 ∧ f = none
      ·obtain ⟨rfl, rfl⟩ := h46
       have hp := hid (hF.out.point hrest hr hlt)
       have hfin : L194 s g wr (.int .u64 M) (.bool T) (.int .i64 ((k2 + 1 : Nat) : Int)) (.bool false) (.bool true) (.bool S) (.int .i64 Nn) (.int .i64 Kp) (.int .i64 Nn) wr := by
        refine ⟨k2 + 1, D, some 0, (kN D : Int), ?_, ?_, rfl, rfl, rfl, ?_, ?_, ?_, ?_, hp, rfl⟩
        ·rw [hM.out]
        ·rw [hT.out]
        ·rw [hS.out]
        ·rw [hN.out]
        ·rw [hKp.out]
        ·rw [hN.out]
       replace hfin := hid hfin
       have hrs := hid hrest
       clear hlt64 hkK hd hc hc' hp hrest hr
       go_wp2_with fail
       go_roundw
       case rel => exact hfin.out
       case measure => simp [intOf]; omega
      ·obtain ⟨eD, ef, eU⟩ := hF.out.stop (Or.inr ⟨c, r, hrest, hc', h46⟩)
       have hU : g.U = c :: r := eU.symm.trans hrest
       have hcm : c = g.m := by
        unfold Fig.U at hU
        by_cases he : g.ex = true
        ·rw [if_pos he] at hU; injection hU with a b; exact a.symm
        ·rw [if_neg he] at hU; cases hU
       have hrs := hid hrest
       clear hU hrest hr
       have hfs : f.isSome = g.dot := by rw [ef]; cases g.dot <;> rfl
       have hqd : g.dot = true → q = (kN g.D : Int) - (g.F.length : Int) := fun e => eD ▸ (hF.out.q1 g.F.length (by rw [ef, if_pos e])).1
       have hSt : S = true := by
        rw [hS.out, eD]
        have := hg.nI
        simp only [ne_eq, decide_not, Bool.not_eq_true', decide_eq_false_iff_not]
        intro e
        rcases List.append_eq_nil_iff.1 e with ⟨e1, e2⟩
        exact this e1
       obtain rfl : M = kM g.C g.mx g.D := by rw [hM.out, eD]
       obtain rfl : T = g.t := by rw [hT.out, eD]; rfl
       obtain rfl : Nn = kN g.D := by rw [hN.out, eD]
       obtain rfl : Kp = kK g.mx g.D := by rw [hKp.out, eD]
       rw [hfs, hSt]
       replace hqd := hid hqd
       replace eU := hid eU
       clear hM hT hN hKp hS hfs hSt eD ef
       rcases hg.hm with ⟨h1, h2⟩ | ⟨h1, h2⟩
       ·rw [h1] at hcm
        subst hcm
        have hC : g.C = 16 := by unfold Fig.C; rw [h2]; rfl
        have hC2 : ((g.C : Nat) : Int) = 16 := by rw [hC]; rfl
        have hlo : ∀ w, Calls Tryz.prog 171 #[.int .u8 112] w fun e w' => e = .returned (.int .u8 112) ∧ w = w' := fun w => lower171 112 (by omega) w
        replace hlo := hid hlo
        clear hlt64 hkK hbd3 hd hC h1 h2 hc hc' h46
        go_wp2_with (go_at_call 171; refine (hlo.out _).mono ?_; rintro e w1 ⟨rfl, rfl⟩)
        exact hK'.out _ _ ⟨_, q, hle, eU.out, ⟨hbd1, hbd2⟩, hqd.out, rfl, rfl, rfl, rfl, rfl, rfl, rfl, rfl, rfl, rfl, rfl, rfl, (by first | rfl | exact val_int hC2.symm), rfl, rfl, rfl, rfl, rfl, rfl, rfl, rfl⟩
       ·have hC : g.C = 10 := by unfold Fig.C; rw [h2]; rfl
        have hC2 : ((g.C : Nat) : Int) = 10 := by rw [hC]; rfl
        have hc3 : c = 101 ∨ c = 69 := by rw [hcm]; exact h1
        clear hlt64 hkK hbd3 hd hC h1 h2 hc hc' h46 hcm
        rcases hc3 with rfl | rfl
        ·go_wp2_with fail
         exact hK'.out _ _ ⟨_, q, hle, eU.out, ⟨hbd1, hbd2⟩, hqd.out, rfl, rfl, rfl, rfl, rfl, rfl, rfl, rfl, rfl, rfl, rfl, rfl, (by first | rfl | exact val_int hC2.symm), rfl, rfl, rfl, rfl, rfl, rfl, rfl, rfl⟩
        ·go_wp2_with fail
         exact hK'.out _ _ ⟨_, q, hle, eU.out, ⟨hbd1, hbd2⟩, hqd.out, rfl, rfl, rfl, rfl, rfl, rfl, rfl, rfl, rfl, rfl, rfl, rfl, (by first | rfl | exact val_int hC2.symm), rfl, rfl, rfl, rfl, rfl, rfl, rfl, rfl⟩
  case h2 =>
   rintro a w0 ⟨k, q, hk, hdr, hqb, hqd, hd0, hz0, f0, f1, f2, f3, f4, f5, f6, f7, f8, f9, f10, f11, f12, f13, f14, f15, f16, f17, rfl⟩
   obtain ⟨u, hu, ha⟩ := frame253 a hd0 hz0
   rw [(hu 0).trans f0, (hu 1).trans f1, (hu 2).trans f2, (hu 3).trans f3, (hu 4).trans f4, (hu 5).trans f5, (hu 6).trans f6, (hu 7).trans f7, (hu 8).trans f8, (hu 9).trans f9, (hu 10).trans f10, (hu 11).trans f11, (hu 12).trans f12, (hu 13).trans f13, (hu 14).trans f14, (hu 15).trans f15, (hu 16).trans f16, (hu 17).trans f17] at ha
   clear f0 f1 f2 f3 f4 f5 f6 f7 f8 f9 f10 f11 f12 f13 f14 f15 f16 f17 hu hd0 hz0
   subst ha
   replace hqd := hid hqd
   refine cut_seq (fun a' w' => ∃ (k : Nat) (q : Int), k ≤ s.size ∧ (bI s).drop k = g.U ∧ (-64 ≤ q ∧ q ≤ 64) ∧ (g.dot = true → q = (kN g.D : Int) - (g.F.length : Int)) ∧ a'.defers = [] ∧ a'.tmps.size = 253 ∧ a'.tmps.getD 0 undef = .string s ∧ a'.tmps.getD 1 undef = undef ∧ a'.tmps.getD 2 undef = .int .u64 (kM g.C g.mx g.D) ∧ a'.tmps.getD 3 undef = .int .i64 0 ∧ a'.tmps.getD 4 undef = .bool g.neg ∧ a'.tmps.getD 5 undef = .bool g.t ∧ a'.tmps.getD 6 undef = .bool g.hex ∧ a'.tmps.getD 7 undef = .int .i64 k ∧ a'.tmps.getD 8 undef = .bool false ∧ a'.tmps.getD 9 undef = .bool false ∧ a'.tmps.getD 10 undef = .int .u64 g.C ∧ a'.tmps.getD 11 undef = .int .i64 g.mx ∧ a'.tmps.getD 12 undef = .int .u8 ec ∧ a'.tmps.getD 13 undef = .bool g.dot ∧ a'.tmps.getD 14 undef = .bool true ∧ a'.tmps.getD 15 undef = .int .i64 (kN g.D) ∧ a'.tmps.getD 16 undef = .int .i64 (kK g.mx g.D) ∧ a'.tmps.getD 17 undef = .int .i64 q ∧ w = w') ?h1 ?h2
   case h1 =>
    intro K hK
    have hK' := hid hK
    clear hK
    go_wp2_with fail
    exact hK'.out _ _ ⟨k, q, hk, hdr, hqb, hqd.out, rfl, rfl, rfl, rfl, rfl, rfl, rfl, rfl, rfl, rfl, rfl, rfl, rfl, rfl, rfl, rfl, rfl, rfl, rfl, rfl, rfl⟩
   case h2 =>
    rintro a w0 ⟨k, q, hk, hdr, hqb, hqd, hd0, hz0, f0, f1, f2, f3, f4, f5, f6, f7, f8, f9, f10, f11, f12, f13, f14, f15, f16, f17, rfl⟩
    obtain ⟨u, hu, ha⟩ := frame253 a hd0 hz0
    rw [(hu 0).trans f0, (hu 1).trans f1, (hu 2).trans f2, (hu 3).trans f3, (hu 4).trans f4, (hu 5).trans f5, (hu 6).trans f6, (hu 7).trans f7, (hu 8).trans f8, (hu 9).trans f9, (hu 10).trans f10, (hu 11).trans f11, (hu 12).trans f12, (hu 13).trans f13, (hu 14).trans f14, (hu 15).trans f15, (hu 16).trans f16, (hu 17).trans f17] at ha
    clear f0 f1 f2 f3 f4 f5 f6 f7 f8 f9 f10 f11 f12 f13 f14 f15 f16 f17 hu hd0 hz0
    subst ha
    replace hqd := hid hqd
    refine cut_seq (fun a' w' => ∃ (k : Nat), k ≤ s.size ∧ (bI s).drop k = g.U ∧ a'.defers = [] ∧ a'.tmps.size = 253 ∧ a'.tmps.getD 0 undef = .string s ∧ a'.tmps.getD 1 undef = undef ∧ a'.tmps.getD 2 undef = .int .u64 (kM g.C g.mx g.D) ∧ a'.tmps.getD 3 undef = .int .i64 0 ∧ a'.tmps.getD 4 undef = .bool g.neg ∧ a'.tmps.getD 5 undef = .bool g.t ∧ a'.tmps.getD 6 undef = .bool g.hex ∧ a'.tmps.getD 7 undef = .int .i64 k ∧ a'.tmps.getD 8 undef = .bool false ∧ a'.tmps.getD 9 undef = .bool false ∧ a'.tmps.getD 10 undef = .int .u64 g.C ∧ a'.tmps.getD 11 undef = .int .i64 g.mx ∧ a'.tmps.getD 12 undef = .int .u8 ec ∧ a'.tmps.getD 13 undef = .bool g.dot ∧ a'.tmps.getD 14 undef = .bool true ∧ a'.tmps.getD 15 undef = .int .i64 (kN g.D) ∧ a'.tmps.getD 16 undef = .int .i64 (kK g.mx g.D) ∧ a'.tmps.getD 17 undef = .int .i64 ((kN g.D : Int) - (g.F.length : Int)) ∧ w = w') ?h1 ?h2
    case h1 =>
     intro K hK
     have hK' := hid hK
     clear hK
     by_cases hd : g.dot = true
     ·have hq2 := hqd.out hd
      rw [hd]
      go_wp2_with fail
      exact hK'.out _ _ ⟨k, hk, hdr, rfl, rfl, rfl, rfl, rfl, rfl, rfl, rfl, rfl, rfl, rfl, rfl, rfl, rfl, rfl, by rw [hd]; rfl, rfl, rfl, rfl, by rw [← hq2]; rfl, rfl⟩
     ·have hF0 : g.F.length = 0 := by rw [hg.zF (by simpa using hd)]; rfl
      rw [Bool.not_eq_true] at hd
      rw [hd]
      go_wp2_with fail
      exact hK'.out _ _ ⟨k, hk, hdr, rfl, rfl, rfl, rfl, rfl, rfl, rfl, rfl, rfl, rfl, rfl, rfl, rfl, rfl, rfl, by rw [hd]; rfl, rfl, rfl, rfl, val_int (by rw [hF0]; simp), rfl⟩
    case h2 =>
     rintro a w0 ⟨k, hk, hdr, hd0, hz0, f0, f1, f2, f3, f4, f5, f6, f7, f8, f9, f10, f11, f12, f13, f14, f15, f16, f17, rfl⟩
     obtain ⟨u, hu, ha⟩ := frame253 a hd0 hz0
     rw [(hu 0).trans f0, (hu 1).trans f1, (hu 2).trans f2, (hu 3).trans f3, (hu 4).trans f4, (hu 5).trans f5, (hu 6).trans f6, (hu 7).trans f7, (hu 8).trans f8, (hu 9).trans f9, (hu 10).trans f10, (hu 11).trans f11, (hu 12).trans f12, (hu 13).trans f13, (hu 14).trans f14, (hu 15).trans f15, (hu 16).trans f16, (hu 17).trans f17] at ha
     clear f0 f1 f2 f3 f4 f5 f6 f7 f8 f9 f10 f11 f12 f13 f14 f15 f16 f17 hu hd0 hz0
     subst ha
     refine cut_seq (fun a' w' => ∃ (k : Nat) (kk dp : Int), k ≤ s.size ∧ (bI s).drop k = g.U ∧ (kk = ((g.q * kK g.mx g.D : Nat) : Int) ∧ 0 ≤ kk ∧ kk ≤ 256) ∧ (dp = (g.q : Int) * ((kN g.D : Int) - (g.F.length : Int)) ∧ -256 ≤ dp ∧ dp ≤ 256) ∧ a'.defers = [] ∧ a'.tmps.size = 253 ∧ a'.tmps.getD 0 undef = .string s ∧ a'.tmps.getD 1 undef = undef ∧ a'.tmps.getD 2 undef = .int .u64 (kM g.C g.mx g.D) ∧ a'.tmps.getD 3 undef = .int .i64 0 ∧ a'.tmps.getD 4 undef = .bool g.neg ∧ a'.tmps.getD 5 undef = .bool g.t ∧ a'.tmps.getD 6 undef = .bool g.hex ∧ a'.tmps.getD 7 undef = .int .i64 k ∧ a'.tmps.getD 8 undef = .bool false ∧ a'.tmps.getD 9 undef = .bool false ∧ a'.tmps.getD 10 undef = .int .u64 g.C ∧ a'.tmps.getD 11 undef = .int .i64 g.mx ∧ a'.tmps.getD 12 undef = .int .u8 ec ∧ a'.tmps.getD 13 undef = .bool g.dot ∧ a'.tmps.getD 14 undef = .bool true ∧ a'.tmps.getD 15 undef = .int .i64 (kN g.D) ∧ a'.tmps.getD 16 undef = .int .i64 kk ∧ a'.tmps.getD 17 undef = .int .i64 dp ∧ w = w') ?h1 ?h2
     case h1 =>
      intro K hK
      have hK' := hid hK
      clear hK
      have hD64 : kN g.D ≤ 64 ∧ g.F.length ≤ 64 := hb64
      cases hh : g.hex
      ·have hkk : kK g.mx g.D ≤ kN g.D := by unfold kK; omega
       have hC : ((g.C : Nat) : Int) = 10 := by unfold Fig.C; rw [hh]; rfl
       have hq1 : g.q = 1 := by unfold Fig.q; rw [hh]; rfl
       go_wp2_with fail
       exact hK'.out _ _ ⟨k, ((kK g.mx g.D : Nat) : Int), (kN g.D : Int) - (g.F.length : Int), hk, hdr, ⟨by rw [hq1, Nat.one_mul], by omega, by omega⟩, ⟨by rw [hq1]; omega, by omega, by omega⟩, rfl, rfl, rfl, rfl, rfl, rfl, rfl, rfl, (by first | rfl | (rw [hh]; rfl)), rfl, rfl, rfl, (by first | rfl | exact val_int hC.symm), rfl, rfl, rfl, rfl, rfl, rfl, rfl, rfl⟩
      ·have hC : ((g.C : Nat) : Int) = 16 := by unfold Fig.C; rw [hh]; rfl
       have hq1 : g.q = 4 := by unfold Fig.q; rw [hh]; rfl
       have hkk : kK g.mx g.D ≤ kN g.D := by unfold kK; omega
       go_wp2_with fail
       exact hK'.out _ _ ⟨k, ((kK g.mx g.D : Nat) : Int) * 4, ((kN g.D : Int) - (g.F.length : Int)) * 4, hk, hdr, ⟨by rw [hq1]; omega, by omega, by omega⟩, ⟨by rw [hq1]; omega, by omega, by omega⟩, rfl, rfl, rfl, rfl, rfl, rfl, rfl, rfl, (by first | rfl | (rw [hh]; rfl)), rfl, rfl, rfl, (by first | rfl | exact val_int hC.symm), rfl, rfl, rfl, rfl, rfl, rfl, rfl, rfl⟩
     case h2 =>
      rintro a w0 ⟨k, kk, dp, hk, hdr, hkk, hdp, hd0, hz0, f0, f1, f2, f3, f4, f5, f6, f7, f8, f9, f10, f11, f12, f13, f14, f15, f16, f17, rfl⟩
      obtain ⟨u, hu, ha⟩ := frame253 a hd0 hz0
      rw [(hu 0).trans f0, (hu 1).trans f1, (hu 2).trans f2, (hu 3).trans f3, (hu 4).trans f4, (hu 5).trans f5, (hu 6).trans f6, (hu 7).trans f7, (hu 8).trans f8, (hu 9).trans f9, (hu 10).trans f10, (hu 11).trans f11, (hu 12).trans f12, (hu 13).trans f13, (hu 14).trans f14, (hu 15).trans f15, (hu 16).trans f16, (hu 17).trans f17] at ha
      clear f0 f1 f2 f3 f4 f5 f6 f7 f8 f9 f10 f11 f12 f13 f14 f15 f16 f17 hu hd0 hz0
      subst ha
      refine cut_seq (fun a' w' => ∃ (kk ep : Int), (kk = ((g.q * kK g.mx g.D : Nat) : Int) ∧ 0 ≤ kk ∧ kk ≤ 256) ∧ ((ep = (g.q : Int) * ((kN g.D : Int) - (g.F.length : Int)) + (if g.sg = [45] then -(satE 10000 g.E 0 : Int) else (satE 10000 g.E 0 : Int))) ∧ -200000 ≤ ep ∧ ep ≤ 200000) ∧ a'.defers = [] ∧ a'.tmps.size = 253 ∧ a'.tmps.getD 0 undef = .string s ∧ a'.tmps.getD 1 undef = undef ∧ a'.tmps.getD 2 undef = .int .u64 (kM g.C g.mx g.D) ∧ a'.tmps.getD 3 undef = .int .i64 0 ∧ a'.tmps.getD 4 undef = .bool g.neg ∧ a'.tmps.getD 5 undef = .bool g.t ∧ a'.tmps.getD 6 undef = .bool g.hex ∧ a'.tmps.getD 7 undef = .int .i64 s.size ∧ a'.tmps.getD 8 undef = .bool false ∧ a'.tmps.getD 9 undef = .bool false ∧ a'.tmps.getD 10 undef = .int .u64 g.C ∧ a'.tmps.getD 11 undef = .int .i64 g.mx ∧ a'.tmps.getD 12 undef = .int .u8 ec ∧ a'.tmps.getD 13 undef = .bool g.dot ∧ a'.tmps.getD 14 undef = .bool true ∧ a'.tmps.getD 15 undef = .int .i64 (kN g.D) ∧ a'.tmps.getD 16 undef = .int .i64 kk ∧ a'.tmps.getD 17 undef = .int .i64 ep ∧ w = w') ?h1 ?h2
      case h1 =>
       intro K hK
       have hK' := hid hK
       clear hK
       have hkk' := hkk
       have hdp' := hid hdp
       obtain ⟨hkk1, hkk2, hkk3⟩ := hkk
       obtain ⟨hdp1, hdp2, hdp3⟩ := hdp
       replace hkk1 := hid hkk1
       replace hdp1 := hid hdp1
       replace hkk' := hid hkk'
       by_cases he : g.ex = true
       ·have hU : g.U = g.m :: (g.sg ++ g.E) := by unfold Fig.U; rw [if_pos he]
        rw [hU] at hdr
        obtain ⟨l0, m0, d0⟩ := at_k hdr
        have hmb : 0 ≤ g.m ∧ g.m ≤ 255 := by have := s[k].toNat_lt; omega
        have hx0 : (k : Int) < (s.size : Int) := by omega
        have hlo : ∀ w, Calls Tryz.prog 171 #[.int .u8 g.m] w fun e w' => e = .returned (.int .u8 ec) ∧ w = w' := by
         have e1 : lowI g.m = ec := by
          rw [hec.out]
          rcases hg.hm with ⟨h1, h2⟩ | ⟨h1 | h1, h2⟩
          all_goals (rw [h1, h2]; rfl)
         intro w
         have := lower171 g.m hmb w
         rwa [e1] at this
        replace hlo := hid hlo
        obtain ⟨d, E', hE⟩ : ∃ d E', g.E = d :: E' := by
         cases hc : g.E with
         | nil => exact absurd hc (hg.nE he)
         | cons d E' => exact ⟨d, E', rfl⟩
        have hd9 := hg.pE d (by rw [hE]; exact List.mem_cons_self)
        have hdb := isD_iff.1 hd9
        have hd1 : 48 ≤ d := hdb.1
        have hd2 : d ≤ 57 := hdb.2
        clear hdb hd9 hU hdr
        rcases hg.hs with h | h | h
        ·rw [h, List.nil_append] at d0
         have d0' := d0
         rw [hE] at d0
         obtain ⟨l1, m1, d1⟩ := at_k d0
         have hx1 : (k : Int) + 1 < (s.size : Int) := by omega
         have b43 : (d == 43) = false := bne_of (by omega)
         have b45 : (d == 45) = false := bne_of (by omega)
         rw [hE] at d0'
         replace d0' := hid d0'
         clear d0 d1
         go_wp2_with (go_at_call 171; refine (hlo.out _).mono ?_; rintro e w1 ⟨rfl, rfl⟩)
         go_loopw [7, 9, 20] (fun i un e wr => L194b s g w i un e wr) (fun i _ _ _ => s.size - (intOf i).toNat)
         case atStart => exact ⟨k + 1, 0, g.E, by first | rfl | go_num, rfl, rfl, hid ⟨by rw [hE]; exact d0'.out, hg.pE, rfl, by omega⟩, by omega, rfl⟩
         case round =>
          obtain ⟨k2, n, r, rfl, rfl, rfl, hr, hn, rfl⟩ := hrel
          have hn2 : (n : Int) < 100000 := by omega
          have hk2 : k2 ≤ s.size := hr.out.2.2.2
          cases hrr : r with
          | nil =>
           have hdr2 := hr.out.1
           rw [hrr] at hdr2
           obtain rfl := at_end hdr2 hk2
           have hsat : satE 10000 g.E 0 = n := by have := hr.out.2.2.1; rw [hrr] at this; exact this.symm
           replace hsat := hid hsat
           clear hdr2 hrr hE
           go_wp2_with fail
           exact hK'.out _ _ ⟨kk, dp + n, hkk'.out, ⟨by rw [← hdp'.out.1, h, hsat.out]; simp, by omega, by omega⟩, rfl, rfl, rfl, rfl, rfl, rfl, rfl, rfl, rfl, rfl, rfl, rfl, rfl, rfl, rfl, rfl, rfl, rfl, rfl, rfl, rfl⟩
          | cons d r2 =>
           have hdr2 := hr.out.1
           rw [hrr] at hdr2
           obtain ⟨l2, m2, d2⟩ := at_k hdr2
           have hd9 := hr.out.2.1 d (by rw [hrr]; exact List.mem_cons_self)
           have hdb := isD_iff.1 hd9
           have hxw := (hxv_9 hd9)
           have hlt2 : (k2 : Int) < (s.size : Int) := by omega
           have q95 : (d == 95) = false := bne_of (by omega)
           have hall : ∀ c ∈ r2, isD c = true := fun c hc => hr.out.2.1 c (by rw [hrr]; exact List.mem_cons_of_mem _ hc)
           have hst := hr.out.2.2.1
           rw [hrr, satE_cons] at hst
           by_cases hn4 : n < 10000
           ·rw [if_pos hn4] at hst
            have hn5 : (n : Int) < 10000 := by omega
            have hfin : ∀ e : Int, e = ((10 * n + hxv d : Nat) : Int) → L194b s g wr (.int .i64 ((k2 + 1 : Nat) : Int)) (.bool false) (.int .i64 e) wr := fun e he => ⟨k2 + 1, 10 * n + hxv d, r2, rfl, rfl, by rw [he], hid ⟨d2, hall, hst, by omega⟩, by omega, rfl⟩
            have hxv2 := hxw.2
            replace hfin := hid hfin
            clear hst hall hd9 hxw hdr2 hrr d2 hE hn4
            go_wp2_with fail
            go_roundw
            case rel => exact hfin.out _ (by omega)
            case measure => simp [intOf]; omega
           ·rw [if_neg hn4] at hst
            have hn5 : ¬ (n : Int) < 10000 := by omega
            have hfin : L194b s g wr (.int .i64 ((k2 + 1 : Nat) : Int)) (.bool false) (.int .i64 n) wr := ⟨k2 + 1, n, r2, rfl, rfl, rfl, hid ⟨d2, hall, hst, by omega⟩, by omega, rfl⟩
            replace hfin := hid hfin
            clear hst hall hd9 hxw hdr2 hrr d2 hE hn4
            go_wp2_with fail
            go_roundw
            case rel => exact hfin.out
            case measure => simp [intOf]; omega
        ·rw [h, List.singleton_append] at d0
         obtain ⟨l1, m1, d1⟩ := at_k d0
         have d1' := d1
         rw [hE] at d1
         obtain ⟨l2, m2, d2⟩ := at_k d1
         have hx1 : (k : Int) + 1 < (s.size : Int) := by omega
         have hx2 : (k : Int) + 1 + 1 < (s.size : Int) := by omega
         rw [hE] at d1'
         replace d1' := hid d1'
         clear d0 d1 d2
         go_wp2_with (go_at_call 171; refine (hlo.out _).mono ?_; rintro e w1 ⟨rfl, rfl⟩)
         go_loopw [7, 9, 20] (fun i un e wr => L194b s g w i un e wr) (fun i _ _ _ => s.size - (intOf i).toNat)
         case atStart => exact ⟨k + 1 + 1, 0, g.E, by first | rfl | go_num, rfl, rfl, hid ⟨by rw [hE]; exact d1'.out, hg.pE, rfl, by omega⟩, by omega, rfl⟩
         case round =>
          obtain ⟨k2, n, r, rfl, rfl, rfl, hr, hn, rfl⟩ := hrel
          have hn2 : (n : Int) < 100000 := by omega
          have hk2 : k2 ≤ s.size := hr.out.2.2.2
          cases hrr : r with
          | nil =>
           have hdr2 := hr.out.1
           rw [hrr] at hdr2
           obtain rfl := at_end hdr2 hk2
           have hsat : satE 10000 g.E 0 = n := by have := hr.out.2.2.1; rw [hrr] at this; exact this.symm
           replace hsat := hid hsat
           clear hdr2 hrr hE
           go_wp2_with fail
           exact hK'.out _ _ ⟨kk, dp + n, hkk'.out, ⟨by rw [← hdp'.out.1, h, hsat.out]; simp, by omega, by omega⟩, rfl, rfl, rfl, rfl, rfl, rfl, rfl, rfl, rfl, rfl, rfl, rfl, rfl, rfl, rfl, rfl, rfl, rfl, rfl, rfl, rfl⟩
          | cons d r2 =>
           have hdr2 := hr.out.1
           rw [hrr] at hdr2
           obtain ⟨l2, m2, d2⟩ := at_k hdr2
           have hd9 := hr.out.2.1 d (by rw [hrr]; exact List.mem_cons_self)
           have hdb := isD_iff.1 hd9
           have hxw := (hxv_9 hd9)
           have hlt2 : (k2 : Int) < (s.size : Int) := by omega
           have q95 : (d == 95) = false := bne_of (by omega)
           have hall : ∀ c ∈ r2, isD c = true := fun c hc => hr.out.2.1 c (by rw [hrr]; exact List.mem_cons_of_mem _ hc)
           have hst := hr.out.2.2.1
           rw [hrr, satE_cons] at hst
           by_cases hn4 : n < 10000
           ·rw [if_pos hn4] at hst
            have hn5 : (n : Int) < 10000 := by omega
            have hfin : ∀ e : Int, e = ((10 * n + hxv d : Nat) : Int) → L194b s g wr (.int .i64 ((k2 + 1 : Nat) : Int)) (.bool false) (.int .i64 e) wr := fun e he => ⟨k2 + 1, 10 * n + hxv d, r2, rfl, rfl, by rw [he], hid ⟨d2, hall, hst, by omega⟩, by omega, rfl⟩
            have hxv2 := hxw.2
            replace hfin := hid hfin
            clear hst hall hd9 hxw hdr2 hrr d2 hE hn4
            go_wp2_with fail
            go_roundw
            case rel => exact hfin.out _ (by omega)
            case measure => simp [intOf]; omega
           ·rw [if_neg hn4] at hst
            have hn5 : ¬ (n : Int) < 10000 := by omega
            have hfin : L194b s g wr (.int .i64 ((k2 + 1 : Nat) : Int)) (.bool false) (.int .i64 n) wr := ⟨k2 + 1, n, r2, rfl, rfl, rfl, hid ⟨d2, hall, hst, by omega⟩, by omega, rfl⟩
            replace hfin := hid hfin
            clear hst hall hd9 hxw hdr2 hrr d2 hE hn4
            go_wp2_with fail
            go_roundw
            case rel => exact hfin.out
            case measure => simp [intOf]; omega
        ·rw [h, List.singleton_append] at d0
         obtain ⟨l1, m1, d1⟩ := at_k d0
         have d1' := d1
         rw [hE] at d1
         obtain ⟨l2, m2, d2⟩ := at_k d1
         have hx1 : (k : Int) + 1 < (s.size : Int) := by omega
         have hx2 : (k : Int) + 1 + 1 < (s.size : Int) := by omega
         rw [hE] at d1'
         replace d1' := hid d1'
         clear d0 d1 d2
         go_wp2_with (go_at_call 171; refine (hlo.out _).mono ?_; rintro e w1 ⟨rfl, rfl⟩)
         go_loopw [7, 9, 20] (fun i un e wr => L194b s g w i un e wr) (fun i _ _ _ => s.size - (intOf i).toNat)
         case atStart => exact ⟨k + 1 + 1, 0, g.E, by first | rfl | go_num, rfl, rfl, hid ⟨by rw [hE]; exact d1'.out, hg.pE, rfl, by omega⟩, by omega, rfl⟩
         case round =>
          obtain ⟨k2, n, r, rfl, rfl, rfl, hr, hn, rfl⟩ := hrel
          have hn2 : (n : Int) < 100000 := by omega
          have hk2 : k2 ≤ s.size := hr.out.2.2.2
          cases hrr : r with
          | nil =>
           have hdr2 := hr.out.1
           rw [hrr] at hdr2
           obtain rfl := at_end hdr2 hk2
           have hsat : satE 10000 g.E 0 = n := by have := hr.out.2.2.1; rw [hrr] at this; exact this.symm
           replace hsat := hid hsat
           clear hdr2 hrr hE
           go_wp2_with fail
           exact hK'.out _ _ ⟨kk, dp - n, hkk'.out, ⟨by rw [← hdp'.out.1, h, hsat.out]; simp; omega, by omega, by omega⟩, rfl, rfl, rfl, rfl, rfl, rfl, rfl, rfl, rfl, rfl, rfl, rfl, rfl, rfl, rfl, rfl, rfl, rfl, rfl, rfl, rfl⟩
          | cons d r2 =>
           have hdr2 := hr.out.1
           rw [hrr] at hdr2
           obtain ⟨l2, m2, d2⟩ := at_k hdr2
           have hd9 := hr.out.2.1 d (by rw [hrr]; exact List.mem_cons_self)
           have hdb := isD_iff.1 hd9
           have hxw := (hxv_9 hd9)
           have hlt2 : (k2 : Int) < (s.size : Int) := by omega
           have q95 : (d == 95) = false := bne_of (by omega)
           have hall : ∀ c ∈ r2, isD c = true := fun c hc => hr.out.2.1 c (by rw [hrr]; exact List.mem_cons_of_mem _ hc)
           have hst := hr.out.2.2.1
           rw [hrr, satE_cons] at hst
           by_cases hn4 : n < 10000
           ·rw [if_pos hn4] at hst
            have hn5 : (n : Int) < 10000 := by omega
            have hfin : ∀ e : Int, e = ((10 * n + hxv d : Nat) : Int) → L194b s g wr (.int .i64 ((k2 + 1 : Nat) : Int)) (.bool false) (.int .i64 e) wr := fun e he => ⟨k2 + 1, 10 * n + hxv d, r2, rfl, rfl, by rw [he], hid ⟨d2, hall, hst, by omega⟩, by omega, rfl⟩
            have hxv2 := hxw.2
            replace hfin := hid hfin
            clear hst hall hd9 hxw hdr2 hrr d2 hE hn4
            go_wp2_with fail
            go_roundw
            case rel => exact hfin.out _ (by omega)
            case measure => simp [intOf]; omega
           ·rw [if_neg hn4] at hst
            have hn5 : ¬ (n : Int) < 10000 := by omega
            have hfin : L194b s g wr (.int .i64 ((k2 + 1 : Nat) : Int)) (.bool false) (.int .i64 n) wr := ⟨k2 + 1, n, r2, rfl, rfl, rfl, hid ⟨d2, hall, hst, by omega⟩, by omega, rfl⟩
            replace hfin := hid hfin
            clear hst hall hd9 hxw hdr2 hrr d2 hE hn4
            go_wp2_with fail
            go_roundw
            case rel => exact hfin.out
            case measure => simp [intOf]; omega
       ·have hU : g.U = [] := by unfold Fig.U; rw [if_neg he]
        rw [hU] at hdr
        obtain rfl := at_end hdr hk
        have hx0 : ¬ (s.size : Int) < (s.size : Int) := by omega
        have hh : g.hex = false := by
         cases hc : g.hex
         ·rfl
         ·exact absurd (hg.hx hc) he
        have hz := hg.zE (by simpa using he)
        have hC : ((g.C : Nat) : Int) = 10 := by unfold Fig.C; rw [hh]; rfl
        go_wp2_with fail
        exact hK'.out _ _ ⟨kk, dp, hkk'.out, ⟨by rw [hz.1, hz.2, ← hdp1.out]; simp [satE], by omega, by omega⟩, rfl, rfl, rfl, rfl, rfl, rfl, rfl, rfl, (by first | rfl | (rw [hh]; rfl)), rfl, rfl, rfl, (by first | rfl | exact val_int hC.symm), rfl, rfl, rfl, rfl, rfl, rfl, rfl, rfl⟩
      case h2 =>
       rintro a w0 ⟨kk, ep, hkk, hep, hd0, hz0, f0, f1, f2, f3, f4, f5, f6, f7, f8, f9, f10, f11, f12, f13, f14, f15, f16, f17, rfl⟩
       obtain ⟨u, hu, ha⟩ := frame253 a hd0 hz0
       rw [(hu 0).trans f0, (hu 1).trans f1, (hu 2).trans f2, (hu 3).trans f3, (hu 4).trans f4, (hu 5).trans f5, (hu 6).trans f6, (hu 7).trans f7, (hu 8).trans f8, (hu 9).trans f9, (hu 10).trans f10, (hu 11).trans f11, (hu 12).trans f12, (hu 13).trans f13, (hu 14).trans f14, (hu 15).trans f15, (hu 16).trans f16, (hu 17).trans f17] at ha
       clear f0 f1 f2 f3 f4 f5 f6 f7 f8 f9 f10 f11 f12 f13 f14 f15 f16 f17 hu hd0 hz0
       subst ha
       have hd0 : kM g.C g.mx g.D = g.d := rfl
       rw [hd0]
       have hef : Hid (ep - kk = g.e) := hid (by
        rw [hep.1, hkk.1]
        unfold Fig.e Fig.p Fig.lost
        have : kK g.mx g.D ≤ kN g.D := by unfold kK; omega
        unfold Fig.q
        cases g.hex
        ·simp only [Bool.false_eq_true, if_false, Nat.one_mul]
         omega
        ·simp only [if_true]
         omega)
       have hkk2 := hkk.2
       have hep2 := hep.2
       clear hkk hep hd0
       by_cases h0 : g.d = 0
       ·have hE0 : ∀ n : Nat, E194 g n (.returned (.tuple #[.int .u64 g.d, .int .i64 0, .bool g.neg, .bool g.t, .bool g.hex, .int .i64 n, .bool true])) := fun n => by unfold E194; rw [if_pos h0]
        have b0 : ((g.d : Int) == 0) = true := by rw [h0]; rfl
        replace hE0 := hid hE0
        obtain ⟨d, hd⟩ : ∃ d : Int, d = (g.d : Int) := ⟨_, rfl⟩
        rw [← hd] at b0 ⊢
        have hd0 : d = 0 := by simpa using b0
        subst hd0
        replace hd := hid hd
        clear h0 b0
        go_wp2_with fail
        simp only [Exit.jump]
        refine bodyPost_ret (results_tmp7 rfl _ _ _) rfl ?_
        exact ⟨by rw [hR.out]; have := hE0.out s.size; rw [← hd.out] at this; exact this, rfl⟩
       ·have hE0 : ∀ n : Nat, E194 g n (.returned (.tuple #[.int .u64 g.d, .int .i64 g.e, .bool g.neg, .bool g.t, .bool g.hex, .int .i64 n, .bool true])) := fun n => by unfold E194; rw [if_neg h0]
        obtain ⟨d, hd⟩ : ∃ d : Int, d = (g.d : Int) := ⟨_, rfl⟩
        rw [← hd]
        have b0 : (d == 0) = false := bne_of (by omega)
        replace hd := hid hd
        replace hE0 := hid hE0
        clear h0
        go_wp2_with fail
        simp only [Exit.jump]
        refine bodyPost_ret (results_tmp7 rfl _ _ _) rfl ?_
        exact ⟨by rw [hR.out, hd.out]; have := hE0.out s.size; rw [← hef.out] at this; exact this, rfl⟩
end
end Go.Proofs.YtlgneiaenanfaaaGreatDoor
