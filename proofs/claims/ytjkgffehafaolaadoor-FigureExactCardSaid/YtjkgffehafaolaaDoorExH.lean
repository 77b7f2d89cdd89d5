/- Walks: figure.Exact whole; the law. No condition. -/
import Derived.Test.YtjkgffehafaolaaDoorExG
import Derived.Test.YtjkgffehafaolaaDoorShelf
import Derived.OwnWalk
import Derived.Lib.AtoiErrMem
import Derived.Lib.AppendIntMem
namespace Go.Proofs.YtjkgffehafaolaaDoor
open Go.RowKit
set_option linter.unusedVariables false
set_option linter.unusedSimpArgs false

theorem indexByte_app (a t : List UInt8) (h : (112 : UInt8) ∉ a) : Lib.indexByte (a ++ 112 :: t) 112 = a.length := by
  induction a with
  | nil => simp [Lib.indexByte]
  | cons x a ih =>
    have hx : (x == 112) = false := beq_eq_false_iff_ne.2 (fun e => h (by rw [e]; exact List.mem_cons_self ..))
    have ih := ih (fun m => h (List.mem_cons_of_mem _ m))
    show Lib.indexByte (x :: (a ++ 112 :: t)) 112 = _
    unfold Lib.indexByte
    rw [hx, ih]
    have : ((a.length : Int) == -1) = false := beq_eq_false_iff_ne.2 (by omega)
    rw [this]
    simp
theorem digit_cD {x : Nat} (h : x ≤ 9) : Lib.digitVal (cD x) = some x := by
  unfold Lib.digitVal cD
  have : (UInt8.ofNat (48 + x)).toNat = 48 + x := by rw [UInt8.toNat_ofNat']; omega
  rw [this, if_pos (by omega)]
  congr 1
  omega
theorem decNat_dgL {u : Nat} (h : u ≤ 1100) : Lib.decNat (dgL u) = some u := by
  unfold dgL
  split
  · simp only [Lib.decNat, List.isEmpty_cons, Lib.decFrom, digit_cD (show u / 10 ≤ 9 by omega), digit_cD (show u % 10 ≤ 9 by omega)]
    simp; omega
  · split
    · simp only [Lib.decNat, List.isEmpty_cons, Lib.decFrom, digit_cD (show u / 100 ≤ 9 by omega), digit_cD (show u / 10 % 10 ≤ 9 by omega), digit_cD (show u % 10 ≤ 9 by omega)]
      simp; omega
    · simp only [Lib.decNat, List.isEmpty_cons, Lib.decFrom, digit_cD (show u / 1000 ≤ 9 by omega), digit_cD (show u / 100 % 10 ≤ 9 by omega), digit_cD (show u / 10 % 10 ≤ 9 by omega), digit_cD (show u % 10 ≤ 9 by omega)]
      simp; omega
theorem atoi_eT {E : Int} (h0 : -1100 ≤ E) (h1 : E ≤ 1100) : Lib.atoi ((if E < 0 then 45 else 43) :: dgL E.natAbs) = some E := by
  have hd := decNat_dgL (u := E.natAbs) (by omega)
  by_cases h : E < 0
  · rw [if_pos h]
    show (Lib.decNat (dgL E.natAbs)).map _ = _
    rw [hd]
    simp; omega
  · rw [if_neg h]
    show (Lib.decNat (dgL E.natAbs)).map _ = _
    rw [hd]
    simp; omega
theorem dgL_len (u : Nat) : (dgL u).length ≤ 4 := by unfold dgL; split <;> (try split) <;> simp
theorem hdB_ne : ∀ d : Nat, d < 16 → hdB d ≠ 112 := by decide
theorem hxs_p : ∀ k r : Nat, r < 4503599627370496 → (112 : UInt8) ∉ hxs k r ∧ (hxs k r).length ≤ k
  | 0, r, _ => by simp [hxs]
  | k + 1, r, h => by
    by_cases h0 : r = 0
    · subst h0; simp [hxs_nil]
    · rw [hxs_pos h0]
      obtain ⟨h1, h2⟩ := hxs_p k (r % 281474976710656 * 16) (by omega)
      refine ⟨fun hm => ?_, by rw [List.length_cons]; omega⟩
      rcases List.mem_cons.1 hm with e | hm
      · exact hdB_ne _ (by omega) e.symm
      · exact h1 hm
theorem nrm_bounds : ∀ (k m : Nat) (p : Int), p - k ≤ (nrm k m p).2 ∧ (nrm k m p).2 ≤ p
  | 0, m, p => by simp [nrm]
  | k + 1, m, p => by
    by_cases h : m < 4503599627370496
    · rw [nrm_lt h]; have := nrm_bounds k (m * 2) (p - 1); omega
    · rw [nrm_ge h]; simp; omega
theorem nrm_top : ∀ (k m : Nat) (p : Int), m < 9007199254740992 → (nrm k m p).1 < 9007199254740992
  | 0, m, p, h => by simpa [nrm] using h
  | k + 1, m, p, h => by
    by_cases h0 : m < 4503599627370496
    · rw [nrm_lt h0]; exact nrm_top k (m * 2) (p - 1) (by omega)
    · rw [nrm_ge h0]; exact h
/-- what stands ahead of the exponent, with its sign -/
def preL (s : Bool) (q : Nat) : List UInt8 := (if s then [45] else []) ++ xL q
theorem preL_p (s : Bool) (q : Nat) (h : q < 4503599627370496) : (112 : UInt8) ∉ preL s q ∧ (preL s q).length ≤ 18 := by
  obtain ⟨h1, h2⟩ := hxs_p 13 q h
  unfold preL xL
  generalize hxs 13 q = l at h1 h2 ⊢
  clear h
  constructor
  · by_cases hq : q = 0 <;> cases s <;> simp [hq, h1]
  · by_cases hq : q = 0 <;> cases s <;> simp [hq] <;> omega
def preH (s : Bool) (m : Nat) : List UInt8 := preL s (m - 4503599627370496)
theorem sub_lt52 {m : Nat} (h : m < 9007199254740992) : m - 4503599627370496 < 4503599627370496 := by omega
theorem preH_p (s : Bool) (m : Nat) (h : m < 9007199254740992) : (112 : UInt8) ∉ preH s m ∧ (preH s m).length ≤ 18 := preL_p s _ (sub_lt52 h)
set_option maxRecDepth 100000 in
set_option maxHeartbeats 1000000 in
theorem cut20 (a t : List UInt8) (h : (112 : UInt8) ∉ a) (ha : a.length ≤ 100) (ht : t.length ≤ 100) (w : World) :
    Calls Tryd.prog 20 #[.string ⟨(a ++ 112 :: t).toArray⟩, .string ⟨#[112]⟩] w fun e w' => e = .returned (.tuple #[.string ⟨a.toArray⟩, .string ⟨t.toArray⟩, .bool true]) ∧ Below w.heap.size w w' := by
  have c := hid (Tryd.stringslite_Index_one ⟨(a ++ 112 :: t).toArray⟩ 112 w)
  rw [show Lib.indexByte (⟨(a ++ 112 :: t).toArray⟩ : ByteArray).data.toList 112 = (a.length : Int) by simpa using indexByte_app a t h] at c
  obtain ⟨S, hS⟩ : ∃ S : ByteArray, S = ⟨(a ++ 112 :: t).toArray⟩ := ⟨_, rfl⟩
  rw [← hS] at c ⊢
  have hsz : S.size = a.length + 1 + t.length := by rw [hS]; simp [ByteArray.size]; omega
  have e1 : S.extract 0 a.length = ⟨a.toArray⟩ := by
    rw [hS]; apply ByteArray.ext; rw [ByteArray.data_extract]; simp [List.extract_eq_take_drop]
  have e2 : S.extract (a.length + 1) (a.length + 1 + t.length) = ⟨t.toArray⟩ := by
    rw [hS]; apply ByteArray.ext; rw [ByteArray.data_extract]
    simp [List.extract_eq_take_drop, List.drop_append, List.drop_eq_nil_of_le (show a.length ≤ a.length + 1 by omega)]
  have HE := hid (And.intro e1 e2)
  clear hS h e1 e2
  obtain ⟨n, hn⟩ : ∃ n, n = a.length := ⟨_, rfl⟩
  rw [← hn] at c HE hsz ha
  clear hn
  have ho : ¬ ((n : Int) < 0) := by omega
  go_enter Tryd.func20, Tryd.ntmps20
  go_wp2_with fail
  refine c.out.mono ?_
  rintro e w2 ⟨rfl, rfl⟩
  go_wp2_with fail
  go_region
  go_wp2_with fail
  rw [HE.out.1, HE.out.2]
  go_ret3
  exact ⟨rfl, (Below.refl _ _).drew⟩
set_option maxRecDepth 100000 in
set_option maxHeartbeats 1000000 in
theorem cut8 (a t : List UInt8) (h : (112 : UInt8) ∉ a) (ha : a.length ≤ 100) (ht : t.length ≤ 100) (w : World) :
    Calls Tryd.prog 8 #[.string ⟨(a ++ 112 :: t).toArray⟩, .string ⟨#[112]⟩] w fun e w' => e = .returned (.tuple #[.string ⟨a.toArray⟩, .string ⟨t.toArray⟩, .bool true]) ∧ Below w.heap.size w w' := by
  have c := hid (cut20 a t h ha ht w)
  obtain ⟨S, hS⟩ : ∃ S : ByteArray, S = ⟨(a ++ 112 :: t).toArray⟩ := ⟨_, rfl⟩
  obtain ⟨S1, hS1⟩ : ∃ S : ByteArray, S = ⟨a.toArray⟩ := ⟨_, rfl⟩
  obtain ⟨S2, hS2⟩ : ∃ S : ByteArray, S = ⟨t.toArray⟩ := ⟨_, rfl⟩
  rw [← hS, ← hS1, ← hS2] at c ⊢
  clear hS hS1 hS2 h ha ht
  go_enter Tryd.func8, Tryd.ntmps8
  go_wp2_with fail
  refine c.out.mono ?_
  rintro e w2 ⟨rfl, hb⟩
  have HB := hid hb
  clear hb c
  go_wp2_with fail
  go_ret3
  exact ⟨rfl, HB.out⟩
/-- figure.Exact -/
def oF4 (s : Bool) (r : Nat) : ByteArray :=
  if (oddF s r ⟨#[48, 120, 48, 112, 48]⟩).2 then (oddF s r ⟨#[48, 120, 48, 112, 48]⟩).1
  else ⟨(preH s (nrm 52 (mantF r) (powF r)).1 ++ 112 :: Lib.itoa ((nrm 52 (mantF r) (powF r)).2 + 52)).toArray⟩
set_option maxRecDepth 100000 in
set_option maxHeartbeats 4000000 in
theorem exact4 (s : Bool) (r b : Nat) (hr : r < 9223372036854775808) (hb : b = r + (if s then 9223372036854775808 else 0)) (w : World) (htab : ∀ w', Below w.heap.size w w' → Lib.TabIs Tryd.prog w' "internal/strconv.uint64pow10" .u64 Lib.pow10Tab) :
    Calls Tryd.prog 4 #[.float .f64 b] w fun e w' => e = .returned (.string (oF4 s r)) ∧ Below w.heap.size w w' := by
  have c7 := hid (odd7 s r b hr hb ⟨#[48, 120, 48, 112, 48]⟩ (by decide) w)
  obtain ⟨R, hR⟩ : ∃ R, R = oF4 s r := ⟨_, rfl⟩
  rw [← hR]
  have HR := hid hR
  clear hR
  obtain ⟨O, hO⟩ : ∃ O, O = oddF s r ⟨#[48, 120, 48, 112, 48]⟩ := ⟨_, rfl⟩
  rw [← hO] at c7
  have HO := hid hO
  have HT := hid htab
  clear hO htab
  cases h2 : O.2 with
  | true =>
    have E := hid (show R = O.1 by rw [HR.out]; unfold oF4; rw [← HO.out, h2]; rfl)
    have HH := hid h2
    clear hb hr
    go_enter Tryd.func4, Tryd.ntmps4
    go_wp2_with fail
    refine c7.out.mono ?_
    rintro e w2 ⟨rfl, rfl⟩
    go_wp2_with fail
    go_ret
    exact ⟨by rw [E.out]; rfl, Below.refl _ _⟩
  | false =>
    have hfin : r < 9218868437227405312 ∧ r ≠ 0 := by
      have h3 := HO.out
      unfold oddF at h3
      by_cases a1 : 9218868437227405312 < r
      · rw [if_pos a1] at h3; rw [h3] at h2; cases h2
      rw [if_neg a1] at h3
      by_cases a2 : r = 9218868437227405312
      · rw [if_pos a2] at h3; rw [h3] at h2; cases h2
      rw [if_neg a2] at h3
      by_cases a3 : r = 0
      · rw [if_pos a3] at h3; rw [h3] at h2; cases h2
      omega
    have c9 := hid (fun w => format9 s b r hb hfin.1 hfin.2 w)
    have E0 : R = ⟨(preH s (nrm 52 (mantF r) (powF r)).1 ++ 112 :: Lib.itoa ((nrm 52 (mantF r) (powF r)).2 + 52)).toArray⟩ := by rw [HR.out]; unfold oF4; rw [← HO.out, h2]; rfl
    have hbd := nrm_bounds 52 (mantF r) (powF r)
    have htp := nrm_top 52 (mantF r) (powF r) mantF_lt
    have hp : -1074 ≤ powF r ∧ powF r ≤ 971 := by have := hfin.1; unfold powF; split <;> omega
    generalize nrm 52 (mantF r) (powF r) = N at *
    obtain ⟨E, hE⟩ : ∃ E, E = N.2 + 52 := ⟨_, rfl⟩
    have hE0 : -1074 ≤ E := by omega
    have hE1 : E ≤ 1023 := by omega
    obtain ⟨p1, p2⟩ := preH_p s N.1 htp
    rw [← hE] at E0
    obtain ⟨A, hA⟩ : ∃ A, A = preH s N.1 := ⟨_, rfl⟩
    obtain ⟨T, hT⟩ : ∃ T : List UInt8, T = (if E < 0 then 45 else 43) :: dgL E.natAbs := ⟨_, rfl⟩
    have hTl : T.length ≤ 5 := by rw [hT]; have := dgL_len E.natAbs; simp; omega
    have hx : xH s N = A ++ 112 :: T := by unfold xH eT; rw [hA, hT, ← hE]; unfold preH preL; simp
    rw [hx] at c9
    rw [← hA] at E0 p1 p2
    have hat : Lib.atoi T = some E := by rw [hT]; exact atoi_eT (by omega) (by omega)
    have c8 := hid (fun w => cut8 A T p1 (by omega) (by omega) w)
    have c10 := hid (fun w => Tryd.strconv_Atoi ⟨T.toArray⟩ E (by simp [ByteArray.size]; omega) (by simpa using hat) w)
    have c11 := hid (fun w h => Tryd.strconv_Itoa E (by omega) (by omega) w h)
    have hil := itoa_len (n := E) (by omega) (by omega)
    obtain ⟨S, hS⟩ : ∃ S : ByteArray, S = ⟨(A ++ 112 :: T).toArray⟩ := ⟨_, rfl⟩
    obtain ⟨SA, hSA⟩ : ∃ S : ByteArray, S = ⟨A.toArray⟩ := ⟨_, rfl⟩
    obtain ⟨ST, hST⟩ : ∃ S : ByteArray, S = ⟨T.toArray⟩ := ⟨_, rfl⟩
    obtain ⟨SE, hSE⟩ : ∃ S : ByteArray, S = ⟨(Lib.itoa E).toArray⟩ := ⟨_, rfl⟩
    have E1 := hid (show R = SA ++ ⟨#[112]⟩ ++ SE by rw [E0, hSA, hSE]; apply ByteArray.ext; simp)
    have hs1 : SA.size ≤ 18 := by rw [hSA]; simpa [ByteArray.size] using p2
    have hs2 : SE.size ≤ 5 := by rw [hSE]; simpa [ByteArray.size] using hil
    rw [← hS] at c9
    rw [← hS, ← hSA, ← hST] at c8
    rw [← hST] at c10
    rw [← hSE] at c11
    clear E0 hbd htp hp hE p1 p2 hA hT hTl hx hat hil hS hSA hST hSE hfin hb hr
    go_enter Tryd.func4, Tryd.ntmps4
    go_wp2_with fail
    refine c7.out.mono ?_
    rintro e w2 ⟨rfl, rfl⟩
    go_wp2_with fail
    refine (c9.out _).mono ?_
    rintro e w3 ⟨rfl, hb3⟩
    have HB3 := hid hb3
    clear hb3 c9 c7
    go_wp2_with fail
    refine (c8.out _).mono ?_
    rintro e w4 ⟨rfl, hb4⟩
    have HB4 := hid (HB3.out.trans (hb4.mono HB3.out.size))
    clear hb4 c8
    go_wp2_with fail
    refine (c10.out _).mono ?_
    rintro e w5 ⟨rfl, tt, hb5⟩
    have HB5 := hid (HB4.out.trans ((show Below w4.heap.size w4 w5 from hb5 ▸ Lib.bytesWorld_below w4 5 tt).mono HB4.out.size))
    clear hb5 c10
    go_wp2_with fail
    refine (c11.out _ (HT.out _ HB5.out)).mono ?_
    rintro e w6 ⟨rfl, kk, os, hb6⟩
    have HB6 := hid (HB5.out.trans ((show Below w5.heap.size w5 w6 from hb6 ▸ Lib.below_grow w5.heap.size w5 (Nat.le_refl _) kk os).mono HB5.out.size))
    clear hb6 c11
    go_wp2_with fail
    go_ret
    exact ⟨by rw [E1.out]; rfl, HB6.out⟩

end Go.Proofs.YtjkgffehafaolaaDoor
