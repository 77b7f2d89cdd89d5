/- Walks and plain laws, merged: FgO FgN. No condition. -/
import Derived.Test.YtlgneiaenanfaaaGreatDoorKq10
import Derived.Test.YtlgneiaenanfaaaGreatDoorKq14
namespace Go.Proofs.YtlgneiaenanfaaaGreatDoor
open Go.RowKit
set_option linter.unusedVariables false
set_option linter.unusedSimpArgs false
set_option maxRecDepth 100000
set_option maxHeartbeats 64000000
section
set_option maxRecDepth 100000
def TxD (s : ByteArray) (cs : List Nat) : Prop := s.size = cs.length ∧ ∀ i (h : i < s.size) (h2 : i < cs.length), (s[i].toNat : Int) = ((48 + cs[i] : Nat) : Int)
def LPre (ds cs : List Nat) (w : World) (a : Value) (wr : World) : Prop := ∃ k q : Nat, a = .int .i64 k ∧ Hid (k ≤ ds.length ∧ k ≤ cs.length ∧ lexLt (ds.drop k) (cs.drop k) = lexLt ds cs) ∧ wr = w.drewN q
theorem prefix213 (B cap : Nat) (ds cs : List Nat) (c : Nat → Value) (s : ByteArray) (hs : TxD s cs) (w : World) (hF : Fn w B c) (hD : DgC c ds) (hl : ds.length ≤ 800) (h9 : DG ds) (hc9 : DG cs) (hcl : cs.length ≤ 800) (hcap : ds.length ≤ cap ∧ cap ≤ 800) :
  Calls Tryz.prog 213 #[.slice (some ⟨B, 0, none⟩) ds.length cap, .string s] w fun e w' => e = .returned (.bool (lexLt ds cs)) ∧ ∃ q, w' = w.drewN q := by
 obtain ⟨R, hR⟩ : ∃ R : Bool, R = lexLt ds cs := ⟨_, rfl⟩
 rw [← hR]
 replace hR := hid hR
 replace hs := hid hs
 replace hF := hid hF
 replace hD := hid hD
 replace h9 := hid h9
 replace hc9 := hid hc9
 have hsz : (s.size : Int) = (cs.length : Int) := by rw [hs.out.1]
 have hcap1 := hcap.1
 go_enter Tryz.func213, Tryz.ntmps213
 go_wp2_with fail
 go_loopw [5] (fun a wr => LPre ds cs w a wr) (fun a _ => cs.length - (intOf a).toNat)
 case atStart => exact ⟨0, 0, rfl, hid ⟨by omega, by omega, rfl⟩, rfl⟩
 case round =>
  obtain ⟨k, q, rfl, hV, rfl⟩ := hrel
  have hkd := hV.out.1
  by_cases hk : k < cs.length
  ·have hki : (k : Int) < (cs.length : Int) := by omega
   have hks : k < s.size := by have := hs.out.1; omega
   have ch := hs.out.2 k hks hk
   by_cases hd : k < ds.length
   ·have hdi : (k : Int) < (ds.length : Int) := by omega
    have cx := hF.out.cell k (by omega)
    rw [hD.out k hd] at cx
    have e1 := List.drop_eq_getElem_cons hd
    have e2 := List.drop_eq_getElem_cons hk
    have hlx := hV.out.2.2
    rw [e1, e2, lexLt, ← hR.out] at hlx
    have x9 : ds[k] ≤ 9 := h9.out _ (List.getElem_mem hd)
    have y9 : cs[k] ≤ 9 := hc9.out _ (List.getElem_mem hk)
    obtain ⟨x, hx⟩ : ∃ x, x = ds[k] := ⟨_, rfl⟩
    obtain ⟨y, hy⟩ : ∃ y, y = cs[k] := ⟨_, rfl⟩
    rw [← hx] at cx hlx x9
    rw [← hy] at ch hlx y9
    obtain ⟨xi, hxi⟩ : ∃ xi : Int, xi = ((48 + x : Nat) : Int) := ⟨_, rfl⟩
    obtain ⟨yi, hyi⟩ : ∃ yi : Int, yi = ((48 + y : Nat) : Int) := ⟨_, rfl⟩
    rw [← hxi] at cx
    rw [← hyi] at ch
    by_cases hxy : x = y
    ·rw [if_pos hxy] at hlx
     have hfin : ∀ q2, LPre ds cs w (.int .i64 ((k + 1 : Nat) : Int)) (w.drewN q2) := fun q2 => ⟨k + 1, q2, rfl, hid ⟨by omega, by omega, hlx.trans hR.out⟩, rfl⟩
     have hxy2 : xi = yi := by omega
     subst hxy2
     replace hxi := hid hxi
     replace hyi := hid hyi
     replace hfin := hid hfin
     have hk' := hid hk
     clear hlx e1 e2 hx hy hxy x9 y9 hd hkd
     go_wp2_with fail
     go_region
     go_wp2_with fail
     go_roundw
     case rel => exact hfin.out (q + 1)
     case measure => simp [intOf]; have := hk'.out; omega
    ·rw [if_neg hxy] at hlx
     have hne : (xi == yi) = false := bne_of (by omega)
     have hlt : decide (xi < yi) = R := by rw [← hlx]; exact decide_eq_decide.2 (by omega)
     replace hxi := hid hxi
     replace hyi := hid hyi
     clear hlx e1 e2 hx hy hxy x9 y9 hd hkd
     go_wp2_with fail
     go_region
     go_wp2_with fail
     go_region
     go_wp2_with fail
     go_ret
     exact ⟨by first | rfl | exact ret_bool hlt, q + 2, rfl⟩
   ·have hdi : ¬ (k : Int) < (ds.length : Int) := by omega
    have hlx := hV.out.2.2
    rw [List.drop_eq_nil_of_le (show ds.length ≤ k by omega), List.drop_eq_getElem_cons hk, lexLt, ← hR.out] at hlx
    obtain rfl : R = true := hlx.symm
    have hdi2 : (ds.length : Int) ≤ (k : Int) := by omega
    clear hkd hlx
    go_wp2_with fail
    go_ret
    exact ⟨rfl, q, rfl⟩
  ·have hki : ¬ (k : Int) < (cs.length : Int) := by omega
   have hlx := hV.out.2.2
   rw [List.drop_eq_nil_of_le (show cs.length ≤ k by omega), ← hR.out] at hlx
   have hlx2 : R = false := by rw [← hlx]; cases ds.drop k <;> rfl
   subst hlx2
   clear hkd hlx
   go_wp2_with fail
   go_ret
   exact ⟨rfl, q, rfl⟩
end
section
set_option maxRecDepth 100000
structure RS (k r0 : Nat) (ds : List Nat) (dp' : Int) (neg : Bool) (o : List Nat) (r n : Nat) (c : Nat → Value) : Prop where
 nb : n < 10 * 2 ^ k
 eq : dnum o * (10 * 2 ^ k) + n = dnum (ds.take r) * 10 ^ (r - ds.length)
 hd : (o = [] ∧ 2 ^ k ≤ n) ∨ ∃ d q, o = d :: q ∧ d ≠ 0
 rr : r = r0 + o.length
 dg : DgC c o
 un : ∀ i (h : i < ds.length), r ≤ i → c i = .int .u8 ((48 + ds[i] : Nat) : Int)
 nd : c 800 = .int .i64 ds.length
 dp : c 801 = .int .i64 dp'
 ng : c 802 = .bool neg
 tr : c 803 = .bool false
 nine : DG o
theorem take_snoc' (l : List Nat) (r : Nat) (h : r < l.length) : l.take (r + 1) = l.take r ++ [l[r]] := List.take_succ_eq_append_getElem h
theorem RS.step {k r0 : Nat} {ds : List Nat} {dp' : Int} {neg : Bool} {o : List Nat} {r n x : Nat} {c : Nat → Value} (h : RS k r0 ds dp' neg o r n c) (h1 : 1 ≤ r0) (hx : (∃ hr : r < ds.length, x = ds[r]) ∨ (ds.length ≤ r ∧ x = 0)) (h9 : x ≤ 9) (hl : o.length < 800) :
  RS k r0 ds dp' neg (o ++ [n / 2 ^ k]) (r + 1) (n % 2 ^ k * 10 + x) (upd c o.length (.int .u8 ((48 + n / 2 ^ k : Nat) : Int))) := by
 have hp : 0 < 2 ^ k := Nat.pow_pos (by decide)
 have hm := Nat.mod_lt n hp
 have hdm := Nat.div_add_mod n (2 ^ k)
 have hq : n / 2 ^ k ≤ 9 := by
  have : n / 2 ^ k < 10 := (Nat.div_lt_iff_lt_mul hp).2 h.nb
  omega
 have hrr := h.rr
 refine ⟨by omega, ?_, ?_, by simp; omega, ?_, ?_, ?_, ?_, ?_, ?_, ?_⟩
 ·rw [dnum_snoc]
  have e1 : (10 * dnum o + n / 2 ^ k) * (10 * 2 ^ k) + (n % 2 ^ k * 10 + x) = 10 * (dnum o * (10 * 2 ^ k) + n) + x := by
   have e2 : (10 * dnum o + n / 2 ^ k) * (10 * 2 ^ k) = 10 * (dnum o * (10 * 2 ^ k)) + 10 * (2 ^ k * (n / 2 ^ k)) := by
    rw [Nat.add_mul]
    simp only [Nat.mul_assoc, Nat.mul_left_comm, Nat.mul_comm]
   rw [e2]
   omega
  rw [e1, h.eq]
  rcases hx with ⟨hr, rfl⟩ | ⟨hr, rfl⟩
  ·rw [show r - ds.length = 0 by omega, show r + 1 - ds.length = 0 by omega, take_snoc' ds r hr, dnum_snoc]
   simp
  ·rw [List.take_of_length_le hr, List.take_of_length_le (by omega), show r + 1 - ds.length = (r - ds.length) + 1 by omega, Nat.pow_succ]
   simp only [Nat.add_zero, Nat.mul_assoc, Nat.mul_left_comm, Nat.mul_comm]
 ·right
  rcases h.hd with ⟨e, hn⟩ | ⟨d, q, e, hd⟩
  ·refine ⟨n / 2 ^ k, [], by rw [e]; rfl, ?_⟩
   have := (Nat.le_div_iff_mul_le hp).2 (show 1 * 2 ^ k ≤ n by omega)
   omega
  ·exact ⟨d, q ++ [n / 2 ^ k], by rw [e]; rfl, hd⟩
 ·intro i hi
  simp at hi
  by_cases e : i = o.length
  ·subst e
   rw [upd_same]
   simp
  ·rw [upd_other e, h.dg i (by omega), List.getElem_append_left (by omega)]
 ·intro i hi hri
  rw [upd_other (by omega)]
  exact h.un i hi (by omega)
 ·rw [upd_other (by omega)]; exact h.nd
 ·rw [upd_other (by omega)]; exact h.dp
 ·rw [upd_other (by omega)]; exact h.ng
 ·rw [upd_other (by omega)]; exact h.tr
 ·intro d hd
  rcases List.mem_append.1 hd with h2 | h2
  ·exact h.nine d h2
  ·rw [List.mem_singleton.1 h2]; exact hq
theorem RS.room {k r0 : Nat} {ds : List Nat} {dp dp' : Int} {neg : Bool} {o : List Nat} {r n : Nat} {c : Nat → Value} {N D f : Nat} (h : RS k r0 ds dp' neg o r n c) (hD : 0 < D) (hv : DV ds dp N D) (hf : D * 2 ^ k ∣ N * 10 ^ f) (hdp : dp' = dp - ((r0 : Int) - 1)) (h1 : 1 ≤ r0) (hr : ds.length ≤ r) (hn : 0 < n) (hb : dp + (f : Int) ≤ 800) : o.length < 800 := by
 apply Classical.byContradiction
 intro hc
 have hrr := h.rr
 obtain ⟨j, hj⟩ : ∃ j : Nat, (r : Int) - 1 - dp = (f : Int) + j := ⟨((r : Int) - 1 - dp - f).toNat, by omega⟩
 obtain ⟨q, hq⟩ := hf
 -- N * 10^(r - dp) = D * dnum ds * 10^(r - len)
 have key : N * 10 ^ (f + j + 1) = D * (dnum ds * 10 ^ (r - ds.length)) := by
  unfold DV at hv
  have hp : 0 < 10 ^ ((ds.length : Int) - dp).toNat := Nat.pow_pos (by decide)
  refine Nat.eq_of_mul_eq_mul_right hp ?_
  calc N * 10 ^ (f + j + 1) * 10 ^ ((ds.length : Int) - dp).toNat = N * 10 ^ ((ds.length : Int) - dp).toNat * 10 ^ (f + j + 1) := by simp only [Nat.mul_assoc, Nat.mul_left_comm, Nat.mul_comm]
   _ = dnum ds * D * (10 ^ (dp - (ds.length : Int)).toNat * 10 ^ (f + j + 1)) := by rw [← hv]; simp only [Nat.mul_assoc, Nat.mul_left_comm, Nat.mul_comm]
   _ = dnum ds * D * (10 ^ (r - ds.length) * 10 ^ ((ds.length : Int) - dp).toNat) := by rw [← Nat.pow_add, ← Nat.pow_add]; congr 2; omega
   _ = _ := by simp only [Nat.mul_assoc, Nat.mul_left_comm, Nat.mul_comm]
 have heq := h.eq
 rw [List.take_of_length_le hr] at heq
 rw [← heq, Nat.pow_succ, Nat.pow_add] at key
 have key2 : D * (10 * 2 ^ k * (q * 10 ^ j)) = D * (dnum o * (10 * 2 ^ k) + n) := by
  rw [← key]
  calc D * (10 * 2 ^ k * (q * 10 ^ j)) = D * 2 ^ k * q * 10 ^ j * 10 := by simp only [Nat.mul_assoc, Nat.mul_left_comm, Nat.mul_comm]
   _ = N * 10 ^ f * 10 ^ j * 10 := by rw [hq]
   _ = _ := by simp only [Nat.mul_assoc]
 have key3 := Nat.eq_of_mul_eq_mul_left hD key2
 have hnb := h.nb
 have hp : 0 < 10 * 2 ^ k := by have : 0 < 2 ^ k := Nat.pow_pos (by decide); omega
 have key4 : n % (10 * 2 ^ k) = 0 := by
  have h2 : (10 * 2 ^ k * (q * 10 ^ j)) % (10 * 2 ^ k) = 0 := Nat.mul_mod_right _ _
  rw [key3, Nat.add_comm, Nat.add_mul_mod_self_right] at h2
  exact h2
 rw [Nat.mod_eq_of_lt hnb] at key4
 omega
structure RP (k : Nat) (ds : List Nat) (r n : Nat) : Prop where
 nb : n < 10 * 2 ^ k
 eq : n = dnum (ds.take r) * 10 ^ (r - ds.length)
theorem RP.step {k : Nat} {ds : List Nat} {r n : Nat} (h : RP k ds r n) (hn : n < 2 ^ k) (hr : r < ds.length) (h9 : ds[r] ≤ 9) : RP k ds (r + 1) (n * 10 + ds[r]) := by
 refine ⟨by omega, ?_⟩
 have := h.eq
 rw [show r - ds.length = 0 by omega, Nat.pow_zero, Nat.mul_one] at this
 rw [show r + 1 - ds.length = 0 by omega, take_snoc' ds r hr, dnum_snoc, this]
 omega
theorem RP.more {k : Nat} {ds : List Nat} {r n : Nat} (h : RP k ds r n) (hn : n < 2 ^ k) (hr : ds.length ≤ r) : RP k ds (r + 1) (n * 10) := by
 refine ⟨by omega, ?_⟩
 have := h.eq
 rw [List.take_of_length_le hr] at this
 rw [List.take_of_length_le (by omega), show r + 1 - ds.length = (r - ds.length) + 1 by omega, Nat.pow_succ, ← Nat.mul_assoc, ← this]
theorem frame130 (a : Act) (hd : a.defers = []) (hs : a.tmps.size = 130) : ∃ u : Nat → Value, (∀ i, u i = a.tmps.getD i undef) ∧ a = { tmps := #[u 0, u 1, u 2, u 3, u 4, u 5, u 6, u 7, u 8, u 9, u 10, u 11, u 12, u 13, u 14, u 15, u 16, u 17, u 18, u 19, u 20, u 21, u 22, u 23, u 24, u 25, u 26, u 27, u 28, u 29, u 30, u 31, u 32, u 33, u 34, u 35, u 36, u 37, u 38, u 39, u 40, u 41, u 42, u 43, u 44, u 45, u 46, u 47, u 48, u 49, u 50, u 51, u 52, u 53, u 54, u 55, u 56, u 57, u 58, u 59, u 60, u 61, u 62, u 63, u 64, u 65, u 66, u 67, u 68, u 69, u 70, u 71, u 72, u 73, u 74, u 75, u 76, u 77, u 78, u 79, u 80, u 81, u 82, u 83, u 84, u 85, u 86, u 87, u 88, u 89, u 90, u 91, u 92, u 93, u 94, u 95, u 96, u 97, u 98, u 99, u 100, u 101, u 102, u 103, u 104, u 105, u 106, u 107, u 108, u 109, u 110, u 111, u 112, u 113, u 114, u 115, u 116, u 117, u 118, u 119, u 120, u 121, u 122, u 123, u 124, u 125, u 126, u 127, u 128, u 129], defers := [] } := by
 refine ⟨fun i => a.tmps.getD i undef, fun _ => rfl, ?_⟩
 obtain ⟨t, d⟩ := a
 simp only at hd hs
 subst hd
 congr 1
 have e : t = ((List.range 130).map fun i => t.getD i undef).toArray := by
  apply Array.ext
  ·simp [hs]
  ·intro i h1 h2
   simp [Array.getD, h1]
 exact e.trans (by kernel_rfl)
theorem pow_bd {r n l : Nat} (h : 10 ^ (r - l) ≤ n) (hn : n < 11529215046068469760) (hl : l ≤ 800) : r ≤ 1000 := by
 apply Classical.byContradiction
 intro hc
 have h1 : 10 ^ 20 ≤ 10 ^ (r - l) := Nat.pow_le_pow_right (by decide) (by omega)
 have h2 : (10 : Nat) ^ 20 = 100000000000000000000 := by decide
 omega
def L1 (k : Nat) (ds : List Nat) (w : World) (a b : Value) (wr : World) : Prop := ∃ r n : Nat, a = .int .i64 r ∧ b = .int .u64 n ∧ Hid (RP k ds r n ∧ r ≤ ds.length ∧ (2 ^ k ≤ n → 1 ≤ r)) ∧ wr = w
def L1b (k : Nat) (ds : List Nat) (w : World) (a b : Value) (wr : World) : Prop := ∃ r n : Nat, a = .int .i64 r ∧ b = .int .u64 n ∧ Hid (RP k ds r n ∧ ds.length ≤ r ∧ 1 ≤ r ∧ 0 < n ∧ 10 ^ (r - ds.length) ≤ n) ∧ wr = w
def L2 (k r0 : Nat) (ds : List Nat) (dp' : Int) (neg : Bool) (B n0 : Nat) (w : World) (a b d : Value) (wr : World) : Prop := ∃ (r n : Nat) (o : List Nat) (c : Nat → Value), a = .int .i64 r ∧ b = .int .i64 o.length ∧ d = .int .u64 n ∧ Hid (RS k r0 ds dp' neg o r n c ∧ Fn wr B c ∧ Below n0 w wr ∧ r ≤ max r0 ds.length)
def L3 (k r0 : Nat) (ds : List Nat) (dp' : Int) (neg : Bool) (B n0 : Nat) (w : World) (b d : Value) (wr : World) : Prop := ∃ (r n : Nat) (o : List Nat) (c : Nat → Value), b = .int .i64 o.length ∧ d = .int .u64 n ∧ Hid (RS k r0 ds dp' neg o r n c ∧ Fn wr B c ∧ Below n0 w wr ∧ ds.length ≤ r ∧ o.length ≤ 800)
theorem right184 (B : Nat) (ds : List Nat) (dp : Int) (neg : Bool) (k : Nat) (hk : 1 ≤ k ∧ k ≤ 60) (h0 : ∃ d r, ds = d :: r ∧ d ≠ 0) (w : World) (hw : Dec w B ds dp neg) (n0 : Nat) (hn0 : n0 ≤ B) (X Y f : Nat) (hY : 0 < Y) (hv : DV ds dp X Y) (hf : Y * 2 ^ k ∣ X * 10 ^ f) (hb : dp + (f : Int) ≤ 800) (hdp : -100000 ≤ dp ∧ dp ≤ 100000) :
  Calls Tryz.prog 184 #[.pointer (some ⟨B, 0, none⟩), .int .u64 k] w fun e w' => e = .returned (.tuple #[]) ∧ (∃ ds' dp', Dec w' B ds' dp' neg ∧ (∃ d r, ds' = d :: r ∧ d ≠ 0) ∧ (∀ x, ds'.getLast? = some x → x ≠ 0) ∧ DV ds' dp' X (Y * 2 ^ k) ∧ dp' ≤ dp ∧ dp - 1000 ≤ dp') ∧ Below n0 w w' := by
 obtain ⟨R, hR⟩ : ∃ R : World → Prop, R = fun w' => (∃ ds' dp', Dec w' B ds' dp' neg ∧ (∃ d r, ds' = d :: r ∧ d ≠ 0) ∧ (∀ x, ds'.getLast? = some x → x ≠ 0) ∧ DV ds' dp' X (Y * 2 ^ k) ∧ dp' ≤ dp ∧ dp - 1000 ≤ dp') ∧ Below n0 w w' := ⟨_, rfl⟩
 suffices hx : Calls Tryz.prog 184 #[.pointer (some ⟨B, 0, none⟩), .int .u64 k] w fun e w' => e = .returned (.tuple #[]) ∧ R w' from hx.mono fun e w' h => ⟨h.1, by have := h.2; rw [hR] at this; exact this⟩
 replace hR := hid hR
 obtain ⟨P, hP⟩ : ∃ P, P = 2 ^ k := ⟨_, rfl⟩
 have hP2 : 2 ≤ P := by
  rw [hP]
  calc 2 = 2 ^ 1 := rfl
   _ ≤ 2 ^ k := Nat.pow_le_pow_right (by decide) hk.1
 have hP60 : P ≤ 1152921504606846976 := by
  rw [hP, show 1152921504606846976 = 2 ^ 60 from rfl]
  exact Nat.pow_le_pow_right (by decide) hk.2
 obtain ⟨Pi, hPi⟩ : ∃ Pi : Int, Pi = (P : Int) := ⟨_, rfl⟩
 have hpw : Hid ((2 : Int) ^ k = Pi) := hid (by rw [hPi, hP]; simp)
 have hPi2 : 2 ≤ Pi := by omega
 have hPi60 : Pi ≤ 1152921504606846976 := by omega
 obtain ⟨c0, hF, hD⟩ := hw
 have cnd := hF.cell 800 (by decide)
 have cdp := hF.cell 801 (by decide)
 rw [hD.nd] at cnd
 rw [hD.dp] at cdp
 have fdp := hF.free 801
 have hlen := hD.len
 have hk64 : k < 64 := by omega
 have hmin : min k 64 = k := by omega
 replace hF := hid hF
 replace hD := hid hD
 replace h0 := hid h0
 replace hv := hid hv
 replace hf := hid hf
 go_enter Tryz.func184, Tryz.ntmps184
 refine wp_seq_k fun K1 h1 => ?_
 have h1' := hid h1
 clear h1
 go_wp2_with fail
 refine h1'.out _ _ ?_
 clear h1'
 refine wp_seq_k fun K1 h1 => ?_
 have h1' := hid h1
 clear h1
 go_wp2_with fail
 refine h1'.out _ _ ?_
 clear h1'
 refine wp_seq_k fun K1 h1 => ?_
 have h1' := hid h1
 clear h1
 go_wp2_with fail
 refine h1'.out _ _ ?_
 clear h1'
 refine cut_seq (fun a' w' => ∃ (r n : Nat), Hid (RP k ds r n ∧ 2 ^ k ≤ n ∧ 1 ≤ r ∧ r ≤ 1000 ∧ w' = w) ∧ a'.defers = [] ∧ a'.tmps.size = 130 ∧ a'.tmps.getD 0 undef = .pointer (some ⟨B, 0, none⟩) ∧ a'.tmps.getD 1 undef = .int .u64 k ∧ a'.tmps.getD 4 undef = .int .i64 r ∧ a'.tmps.getD 5 undef = .int .i64 0 ∧ a'.tmps.getD 6 undef = .int .u64 n) ?h1 ?h2
 case h1 =>
  intro K hK
  have hK' := hid hK
  clear hK
  go_wp2_with fail
  go_loopw [4, 6] (fun a b wr => L1 k ds w a b wr) (fun a _ _ => ds.length - (intOf a).toNat)
  case atStart => exact ⟨0, 0, rfl, rfl, hid ⟨⟨by omega, by simp [dnum_nil]⟩, by omega, fun h => by omega⟩, rfl⟩
  case round =>
   obtain ⟨r, n, rfl, rfl, hV, rfl⟩ := hrel
   have hrl := hV.out.2.1
   by_cases hn : n < P
   ·by_cases hr : r < ds.length
    ·have hx := hD.out.dg r hr
     have cx := hF.out.cell r (by omega)
     rw [hx] at cx
     obtain ⟨x, hx2⟩ : ∃ x, x = ds[r] := ⟨_, rfl⟩
     have h9 : ds[r] ≤ 9 := hD.out.nine _ (List.getElem_mem hr)
     have hfin : ∀ v : Int, v = ((n * 10 + ds[r] : Nat) : Int) → L1 k ds wr (.int .i64 ((r + 1 : Nat) : Int)) (.int .u64 v) wr := by
      rintro v rfl
      exact ⟨r + 1, n * 10 + ds[r], rfl, rfl, hid ⟨hV.out.1.step (by omega) hr h9, hr, fun _ => by omega⟩, rfl⟩
     rw [← hx2] at cx h9 hfin
     obtain ⟨xi, hxi⟩ : ∃ xi : Int, xi = (x : Int) := ⟨_, rfl⟩
     have hcx : ((48 + x : Nat) : Int) = 48 + xi := by omega
     rw [hcx] at cx
     have hx0 : 0 ≤ xi := by omega
     have hx9 : xi ≤ 9 := by omega
     obtain ⟨ni, hni⟩ : ∃ ni : Int, ni = (n : Int) := ⟨_, rfl⟩
     rw [← hni]
     have hn0 : 0 ≤ ni := by omega
     have hn1 : ni < Pi := by omega
     have hq0 : (ni / 2 ^ k == 0) = true := by rw [hpw.out, Int.ediv_eq_zero_of_lt hn0 hn1]; rfl
     have hn2 : ni < 1152921504606846976 := by omega
     have hri : (r : Int) < (ds.length : Int) := by omega
     replace hx2 := hid hx2
     replace hxi := hid hxi
     replace hni := hid hni
     replace hfin := hid hfin
     have hr' := hid hr
     clear hx2 hx h9 hn hcx hrl hr
     go_wp2_with fail
     go_roundw
     case rel => exact hfin.out _ (by have := hni.out; have := hxi.out; omega)
     case measure => simp [intOf]; have := hr'.out; omega
    ·obtain rfl : r = ds.length := by omega
     have hn0 : 0 < n := by
      have h1 := hV.out.1.eq
      rw [List.take_of_length_le (by omega), Nat.sub_self, Nat.pow_zero, Nat.mul_one] at h1
      obtain ⟨d, q, e, hd⟩ := h0.out
      have h2 := dnum_ge (d := d) (r := q) hd
      have h3 : 0 < 10 ^ q.length := Nat.pow_pos (by decide)
      rw [h1, e]
      omega
     have hl1 : 1 ≤ ds.length := by obtain ⟨d, q, e, hd⟩ := h0.out; rw [e]; simp
     have hst : L1b k ds wr (.int .i64 (ds.length : Int)) (.int .u64 (n : Int)) wr := ⟨ds.length, n, rfl, rfl, hid ⟨hV.out.1, by omega, hl1, hn0, by rw [Nat.sub_self]; exact hn0⟩, rfl⟩
     obtain ⟨ni, hni⟩ : ∃ ni : Int, ni = (n : Int) := ⟨_, rfl⟩
     rw [← hni]
     have hn0' : 0 < ni := by omega
     have hn1 : ni < Pi := by omega
     have hq0 : (ni / 2 ^ k == 0) = true := by rw [hpw.out, Int.ediv_eq_zero_of_lt (by omega) hn1]; rfl
     have hn2 : ni < 1152921504606846976 := by omega
     have hnz : (ni == 0) = false := bne_of (by omega)
     rw [← hni] at hst
     replace hst := hid hst
     replace hni := hid hni
     clear hn hrl hl1 hn0
     replace hP := hid hP
     replace hPi := hid hPi
     replace hP2 := hid hP2
     replace hP60 := hid hP60
     go_wp2_with fail
     go_loopw [4, 6] (fun a b wr2 => L1b k ds wr a b wr2) (fun _ b _ => P - (intOf b).toNat)
     case atStart => exact hst.out
     case round =>
      obtain ⟨r, n, rfl, rfl, hV, rfl⟩ := hrel
      replace hP := hP.out
      replace hPi := hPi.out
      replace hP2 := hP2.out
      replace hP60 := hP60.out
      by_cases hn : n < P
      ·have hfin : ∀ v : Int, v = ((n * 10 : Nat) : Int) → L1b k ds wr (.int .i64 ((r + 1 : Nat) : Int)) (.int .u64 v) wr := by
        rintro v rfl
        obtain ⟨h1, h2, h3, h4, h5⟩ := hV.out
        exact ⟨r + 1, n * 10, rfl, rfl, hid ⟨h1.more (by omega) h2, by omega, by omega, by omega, by rw [show r + 1 - ds.length = r - ds.length + 1 by omega, Nat.pow_succ]; omega⟩, rfl⟩
       have hnp := hV.out.2.2.2.1
       have hrb : r ≤ 1000 := pow_bd hV.out.2.2.2.2 (by omega) hlen
       obtain ⟨ni, hni⟩ : ∃ ni : Int, ni = (n : Int) := ⟨_, rfl⟩
       rw [← hni]
       have hn0 : 0 ≤ ni := by omega
       have hn1 : ni < Pi := by omega
       have hq0 : (ni / 2 ^ k == 0) = true := by rw [hpw.out, Int.ediv_eq_zero_of_lt hn0 hn1]; rfl
       have hn2 : ni < 1152921504606846976 := by omega
       have hwr : IntKind.i64.wrap ((r : Int) + 1) = (r : Int) + 1 := by rw [IntKind.wrap_i64]; omega
       replace hni := hid hni
       replace hfin := hid hfin
       replace hnp := hid hnp
       have hn' := hid hn
       clear hn hrb
       replace hP := hid hP
       replace hPi := hid hPi
       replace hP2 := hid hP2
       replace hP60 := hid hP60
       go_wp2_with fail
       go_roundw
       case rel => exact hfin.out _ (by have := hni.out; omega)
       case measure => simp [intOf]; have := hn'.out; have := hni.out; have := hnp.out; omega
      ·have hfin : Hid (RP k ds r n ∧ 2 ^ k ≤ n ∧ 1 ≤ r ∧ r ≤ 1000 ∧ wr = wr) := hid ⟨hV.out.1, by omega, hV.out.2.2.1, pow_bd hV.out.2.2.2.2 (by have := hV.out.1.nb; omega) hlen, rfl⟩
       obtain ⟨ni, hni⟩ : ∃ ni : Int, ni = (n : Int) := ⟨_, rfl⟩
       rw [← hni]
       have hn1 : Pi ≤ ni := by omega
       have hq0 : (ni / 2 ^ k == 0) = false := bne_of (by
        intro e
        rw [hpw.out] at e
        have h9 := Int.lt_ediv_add_one_mul_self ni (show 0 < Pi by omega)
        rw [e] at h9
        omega)
       replace hni := hid hni
       clear hn
       replace hP := hid hP
       replace hPi := hid hPi
       replace hP2 := hid hP2
       replace hP60 := hid hP60
       go_wp2_with fail
       exact hK'.out _ _ ⟨r, n, (by first | exact hfin | simpa using hfin), rfl, rfl, rfl, rfl, rfl, rfl, (by first | rfl | exact val_int hni.out)⟩
   ·have hfin : Hid (RP k ds r n ∧ 2 ^ k ≤ n ∧ 1 ≤ r ∧ r ≤ 1000 ∧ wr = wr) := hid ⟨hV.out.1, by omega, hV.out.2.2 (by omega), by omega, rfl⟩
    obtain ⟨ni, hni⟩ : ∃ ni : Int, ni = (n : Int) := ⟨_, rfl⟩
    rw [← hni]
    have hn1 : Pi ≤ ni := by omega
    have hq0 : (ni / 2 ^ k == 0) = false := bne_of (by
     intro e
     rw [hpw.out] at e
     have h9 := Int.lt_ediv_add_one_mul_self ni (show 0 < Pi by omega)
     rw [e] at h9
     omega)
    replace hni := hid hni
    clear hn hrl
    replace hP := hid hP
    replace hPi := hid hPi
    replace hP2 := hid hP2
    replace hP60 := hid hP60
    go_wp2_with fail
    exact hK'.out _ _ ⟨r, n, (by first | exact hfin | simpa using hfin), rfl, rfl, rfl, rfl, rfl, rfl, (by first | rfl | exact val_int hni.out)⟩
 case h2 =>
  rintro a wc ⟨r, n, hP1, hd0, hz0, f0, f1, f4, f5, f6⟩
  obtain ⟨u, hu, ha⟩ := frame130 a hd0 hz0
  rw [(hu 0).trans f0, (hu 1).trans f1, (hu 4).trans f4, (hu 5).trans f5, (hu 6).trans f6] at ha
  clear f0 f1 f4 f5 f6 hu hd0 hz0
  subst ha
  have hr1 : r ≤ 1000 := hP1.out.2.2.2.1
  have hst : ∀ v : Value, v = .int .i64 (dp - ((r : Int) - 1)) → (RS k r ds (dp - ((r : Int) - 1)) neg [] r n (upd c0 801 v) ∧ Fn (wc.setCell ⟨B, 801, none⟩ v) B (upd c0 801 v) ∧ Below n0 w (wc.setCell ⟨B, 801, none⟩ v) ∧ 1 ≤ r ∧ r ≤ 1000) := by
   rintro v rfl
   obtain ⟨h1, h2, h3, h4, h5⟩ := hP1.out
   subst h5
   refine ⟨⟨h1.nb, ?_, Or.inl ⟨rfl, h2⟩, rfl, fun i hi => by simp at hi, fun i hi hri => ?_, ?_, ?_, ?_, ?_, fun d hd => by cases hd⟩, hF.out.set 801 (by decide) _, (Below.refl _ _).setCell hn0 _, h3, h4⟩
   ·rw [dnum_nil, Nat.zero_mul, Nat.zero_add]; exact h1.eq
   ·rw [upd_other (by omega)]; exact hD.out.dg i hi
   ·rw [upd_other (by decide)]; exact hD.out.nd
   ·rw [upd_same]
   ·rw [upd_other (by decide)]; exact hD.out.ng
   ·rw [upd_other (by decide)]; exact hD.out.tr
  have hwc : wc = w := hP1.out.2.2.2.2
  have cdp' : wc.cell? ⟨B, 801, none⟩ = some (.int .i64 dp) := by rw [hwc]; exact cdp
  have fdp' : wc.frozen? ⟨B, 801, none⟩ = false := by rw [hwc]; exact fdp
  have hwp : IntKind.u64.wrap ((2 : Int) ^ k) = 2 ^ k := by rw [hpw.out, IntKind.wrap_u64]; omega
  have hwp1 : IntKind.u64.wrap ((2 : Int) ^ k - 1) = 2 ^ k - 1 := by rw [hpw.out, IntKind.wrap_u64]; omega
  have hri : (r : Int) ≤ 1000 := by omega
  replace hst := hid hst
  replace hwc := hid hwc
  obtain ⟨hdp1, hdp2⟩ := hdp
  clear hr1 cdp fdp
  replace hP := hid hP
  replace hPi := hid hPi
  replace hP2 := hid hP2
  replace hP60 := hid hP60
  refine wp_seq_k fun K1 h1 => ?_
  have h1' := hid h1
  clear h1
  go_wp2_with fail
  refine h1'.out _ _ ?_
  clear h1'
  refine cut_seq (fun a' w' => ∃ (r n : Nat) (c : Nat → Value), Hid (RS k r ds (dp - ((r : Int) - 1)) neg [] r n c ∧ Fn w' B c ∧ Below n0 w w' ∧ 1 ≤ r ∧ r ≤ 1000) ∧ a'.defers = [] ∧ a'.tmps.size = 130 ∧ a'.tmps.getD 0 undef = .pointer (some ⟨B, 0, none⟩) ∧ a'.tmps.getD 1 undef = .int .u64 k ∧ a'.tmps.getD 4 undef = .int .i64 r ∧ a'.tmps.getD 5 undef = .int .i64 0 ∧ a'.tmps.getD 6 undef = .int .u64 n ∧ a'.tmps.getD 8 undef = .int .u64 (2 ^ k - 1)) ?h1 ?h2
  case h1 =>
   intro K hK
   have hK' := hid hK
   clear hK
   go_wp2_with fail
   exact hK'.out _ _ ⟨r, n, _, hid (hst.out _ rfl), rfl, rfl, rfl, rfl, rfl, rfl, rfl, rfl⟩
  case h2 =>
   rintro a wc ⟨r0, n1, c1, hP2', hd0, hz0, f0, f1, f4, f5, f6, f8⟩
   obtain ⟨u, hu, ha⟩ := frame130 a hd0 hz0
   rw [(hu 0).trans f0, (hu 1).trans f1, (hu 4).trans f4, (hu 5).trans f5, (hu 6).trans f6, (hu 8).trans f8] at ha
   clear f0 f1 f4 f5 f6 f8 hu hd0 hz0
   subst ha
   refine cut_seq (fun a' w' => ∃ (r0 : Nat) (o : List Nat) (r n : Nat) (c : Nat → Value), Hid (RS k r0 ds (dp - ((r0 : Int) - 1)) neg o r n c ∧ Fn w' B c ∧ Below n0 w w' ∧ (1 ≤ r0 ∧ r0 ≤ 1000) ∧ ds.length ≤ r ∧ o.length ≤ 800) ∧ a'.defers = [] ∧ a'.tmps.size = 130 ∧ a'.tmps.getD 0 undef = .pointer (some ⟨B, 0, none⟩) ∧ a'.tmps.getD 1 undef = .int .u64 k ∧ a'.tmps.getD 5 undef = .int .i64 o.length ∧ a'.tmps.getD 6 undef = .int .u64 n ∧ a'.tmps.getD 8 undef = .int .u64 (2 ^ k - 1)) ?h1 ?h2
   case h1 =>
    intro K hK
    have hK' := hid hK
    clear hK
    go_wp2_with fail
    go_loopw [4, 5, 6] (fun a b d wr => L2 k r0 ds (dp - ((r0 : Int) - 1)) neg B n0 w a b d wr) (fun a _ _ _ => ds.length - (intOf a).toNat)
    case atStart => exact ⟨r0, n1, [], c1, rfl, rfl, rfl, hid ⟨hP2'.out.1, hP2'.out.2.1, hP2'.out.2.2.1, by omega⟩⟩
    case round =>
     obtain ⟨r, n, o, c, rfl, rfl, rfl, hV⟩ := hrel
     replace hP := hP.out
     replace hPi := hPi.out
     replace hP2 := hP2.out
     replace hP60 := hP60.out
     have hFr := hV.out.2.1
     have cn := hFr.cell 800 (by decide)
     rw [hV.out.1.nd] at cn
     have hrr := hV.out.1.rr
     have hr01 : 1 ≤ r0 := hP2'.out.2.2.2.1
     have hr0b : r0 ≤ 1000 := hP2'.out.2.2.2.2
     by_cases hr : r < ds.length
     ·have cx := hFr.cell r (by omega)
      rw [hV.out.1.un r hr (Nat.le_refl _)] at cx
      have co := hFr.cell o.length (by omega)
      have fo := hFr.free o.length
      obtain ⟨x, hx⟩ : ∃ x, x = ds[r] := ⟨_, rfl⟩
      have h9 : ds[r] ≤ 9 := hD.out.nine _ (List.getElem_mem hr)
      have hstep := hV.out.1.step hr01 (Or.inl ⟨hr, rfl⟩) h9 (by omega)
      rw [← hx] at cx h9 hstep
      obtain ⟨xi, hxi⟩ : ∃ xi : Int, xi = (x : Int) := ⟨_, rfl⟩
      have hcx : ((48 + x : Nat) : Int) = 48 + xi := by omega
      rw [hcx] at cx
      have hx0 : 0 ≤ xi := by omega
      have hx9 : xi ≤ 9 := by omega
      obtain ⟨qn, hqn⟩ : ∃ qn, qn = n / 2 ^ k := ⟨_, rfl⟩
      obtain ⟨mn, hmn⟩ : ∃ mn, mn = n % 2 ^ k := ⟨_, rfl⟩
      have hq9 : qn ≤ 9 := by
       have : n / 2 ^ k < 10 := (Nat.div_lt_iff_lt_mul (by rw [← hP]; omega)).2 hV.out.1.nb
       omega
      have hm60 : mn < 1152921504606846976 := by
       have : n % 2 ^ k < 2 ^ k := Nat.mod_lt _ (by rw [← hP]; omega)
       omega
      have hand : bits .and .u64 (n : Int) ((2 : Int) ^ k - 1) = (mn : Int) := by
       have h := and_low k n (by have := hV.out.1.nb; omega) (by omega)
       rw [← hmn, ← hP, show ((P - 1 : Nat) : Int) = Pi - 1 by omega, ← hpw.out] at h
       exact h
      have hdiv : (n : Int) / 2 ^ k = (qn : Int) := by rw [hqn]; simp
      obtain ⟨qi, hqi⟩ : ∃ qi : Int, qi = (qn : Int) := ⟨_, rfl⟩
      obtain ⟨mi, hmi⟩ : ∃ mi : Int, mi = (mn : Int) := ⟨_, rfl⟩
      obtain ⟨ni, hni⟩ : ∃ ni : Int, ni = (n : Int) := ⟨_, rfl⟩
      rw [← hqi] at hdiv
      rw [← hmi] at hand
      rw [← hni] at hdiv hand ⊢
      have hqi0 : 0 ≤ qi := by omega
      have hqi9 : qi ≤ 9 := by omega
      have hmi0 : 0 ≤ mi := by omega
      have hmi6 : mi < 1152921504606846976 := by omega
      rw [← hqn, ← hmn] at hstep
      have hfin : ∀ (v : Value) (a : Int), v = .int .u8 ((48 + qn : Nat) : Int) → a = ((mn * 10 + x : Nat) : Int) → L2 k r0 ds (dp - ((r0 : Int) - 1)) neg B n0 w (.int .i64 ((r + 1 : Nat) : Int)) (.int .i64 ((o.length : Int) + 1)) (.int .u64 a) (wr.setCell ⟨B, o.length, none⟩ v) := by
       rintro v a rfl rfl
       exact ⟨r + 1, mn * 10 + x, o ++ [qn], _, rfl, by simp, rfl, hid ⟨hstep, hFr.set o.length (by omega) _, hV.out.2.2.1.setCell hn0 _, by omega⟩⟩
      have hri : (r : Int) < (ds.length : Int) := by omega
      have hol : (o.length : Int) < 800 := by omega
      have hol' : o.length < 800 := by omega
      have hr' := hid hr
      replace hni := hid hni
      replace hqi := hid hqi
      replace hmi := hid hmi
      replace hxi := hid hxi
      replace hfin := hid hfin
      clear hstep hcx hx h9 hqn hmn hq9 hm60 hrr hr01 hr0b hr
      replace hP := hid hP
      replace hPi := hid hPi
      replace hP2 := hid hP2
      replace hP60 := hid hP60
      go_wp2_with fail
      go_roundw
      case rel => exact hfin.out _ _ (by first | rfl | exact val_int (by have := hqi.out; omega)) (by have := hmi.out; have := hxi.out; omega)
      case measure => simp [intOf]; have := hr'.out; omega
     ·have hfin : Hid (RS k r0 ds (dp - ((r0 : Int) - 1)) neg o r n c ∧ Fn wr B c ∧ Below n0 w wr ∧ (1 ≤ r0 ∧ r0 ≤ 1000) ∧ ds.length ≤ r ∧ o.length ≤ 800) := hid ⟨hV.out.1, hFr, hV.out.2.2.1, ⟨hr01, hr0b⟩, by omega, by have := hV.out.2.2.2; omega⟩
      have hri : ¬ (r : Int) < (ds.length : Int) := by omega
      clear hr hrr hr01 hr0b
      replace hP := hid hP
      replace hPi := hid hPi
      replace hP2 := hid hP2
      replace hP60 := hid hP60
      go_wp2_with fail
      exact hK'.out _ _ ⟨r0, o, r, n, c, hfin, rfl, rfl, rfl, rfl, rfl, rfl, rfl⟩
   case h2 =>
    rintro a wc ⟨r0, o1, r1, n1, c1, hP3, hd0, hz0, f0, f1, f5, f6, f8⟩
    obtain ⟨u, hu, ha⟩ := frame130 a hd0 hz0
    rw [(hu 0).trans f0, (hu 1).trans f1, (hu 5).trans f5, (hu 6).trans f6, (hu 8).trans f8] at ha
    clear f0 f1 f5 f6 f8 hu hd0 hz0
    subst ha
    refine cut_seq (fun a' w' => ∃ (r0 : Nat) (o : List Nat) (r : Nat) (c : Nat → Value), Hid (RS k r0 ds (dp - ((r0 : Int) - 1)) neg o r 0 c ∧ Fn w' B c ∧ Below n0 w w' ∧ (1 ≤ r0 ∧ r0 ≤ 1000) ∧ ds.length ≤ r ∧ o.length ≤ 800) ∧ a'.defers = [] ∧ a'.tmps.size = 130 ∧ a'.tmps.getD 0 undef = .pointer (some ⟨B, 0, none⟩) ∧ a'.tmps.getD 5 undef = .int .i64 o.length) ?h1 ?h2
    case h1 =>
     intro K hK
     have hK' := hid hK
     clear hK
     go_wp2_with fail
     go_loopw [5, 6] (fun b d wr => L3 k r0 ds (dp - ((r0 : Int) - 1)) neg B n0 w b d wr) (fun b _ _ => 800 - (intOf b).toNat)
     case atStart => exact ⟨r1, n1, o1, c1, rfl, rfl, hid ⟨hP3.out.1, hP3.out.2.1, hP3.out.2.2.1, hP3.out.2.2.2.2.1, hP3.out.2.2.2.2.2⟩⟩
     case round =>
      obtain ⟨r, n, o, c, rfl, rfl, hV⟩ := hrel
      replace hP := hP.out
      replace hPi := hPi.out
      replace hP2 := hP2.out
      replace hP60 := hP60.out
      have hFr := hV.out.2.1
      have hr01 : 1 ≤ r0 := hP3.out.2.2.2.1.1
      by_cases hn : n = 0
      ·subst hn
       have hfin : Hid (RS k r0 ds (dp - ((r0 : Int) - 1)) neg o r 0 c ∧ Fn wr B c ∧ Below n0 w wr ∧ (1 ≤ r0 ∧ r0 ≤ 1000) ∧ ds.length ≤ r ∧ o.length ≤ 800) := hid ⟨hV.out.1, hFr, hV.out.2.2.1, hP3.out.2.2.2.1, hV.out.2.2.2.1, hV.out.2.2.2.2⟩
       clear hr01
       replace hP := hid hP
       replace hPi := hid hPi
       replace hP2 := hid hP2
       replace hP60 := hid hP60
       go_wp2_with fail
       exact hK'.out _ _ ⟨r0, o, r, c, hfin, rfl, rfl, rfl, rfl⟩
      ·have hol' : o.length < 800 := hV.out.1.room hY hv.out hf.out rfl hr01 hV.out.2.2.2.1 (by omega) hb
       have co := hFr.cell o.length (by omega)
       have fo := hFr.free o.length
       have hstep := hV.out.1.step hr01 (x := 0) (Or.inr ⟨hV.out.2.2.2.1, rfl⟩) (by decide) hol'
       obtain ⟨qn, hqn⟩ : ∃ qn, qn = n / 2 ^ k := ⟨_, rfl⟩
       obtain ⟨mn, hmn⟩ : ∃ mn, mn = n % 2 ^ k := ⟨_, rfl⟩
       have hq9 : qn ≤ 9 := by
        have : n / 2 ^ k < 10 := (Nat.div_lt_iff_lt_mul (by rw [← hP]; omega)).2 hV.out.1.nb
        omega
       have hm60 : mn < 1152921504606846976 := by
        have : n % 2 ^ k < 2 ^ k := Nat.mod_lt _ (by rw [← hP]; omega)
        omega
       have hand : bits .and .u64 (n : Int) ((2 : Int) ^ k - 1) = (mn : Int) := by
        have h := and_low k n (by have := hV.out.1.nb; omega) (by omega)
        rw [← hmn, ← hP, show ((P - 1 : Nat) : Int) = Pi - 1 by omega, ← hpw.out] at h
        exact h
       have hdiv : (n : Int) / 2 ^ k = (qn : Int) := by rw [hqn]; simp
       obtain ⟨qi, hqi⟩ : ∃ qi : Int, qi = (qn : Int) := ⟨_, rfl⟩
       obtain ⟨mi, hmi⟩ : ∃ mi : Int, mi = (mn : Int) := ⟨_, rfl⟩
       obtain ⟨ni, hni⟩ : ∃ ni : Int, ni = (n : Int) := ⟨_, rfl⟩
       rw [← hqi] at hdiv
       rw [← hmi] at hand
       rw [← hni] at hdiv hand ⊢
       have hqi0 : 0 ≤ qi := by omega
       have hqi9 : qi ≤ 9 := by omega
       have hmi0 : 0 ≤ mi := by omega
       have hmi6 : mi < 1152921504606846976 := by omega
       rw [← hqn, ← hmn, Nat.add_zero] at hstep
       have hfin : ∀ (v : Value) (a : Int), v = .int .u8 ((48 + qn : Nat) : Int) → a = ((mn * 10 : Nat) : Int) → L3 k r0 ds (dp - ((r0 : Int) - 1)) neg B n0 w (.int .i64 ((o.length : Int) + 1)) (.int .u64 a) (wr.setCell ⟨B, o.length, none⟩ v) := by
        rintro v a rfl rfl
        exact ⟨r + 1, mn * 10, o ++ [qn], _, by simp, rfl, hid ⟨hstep, hFr.set o.length (by omega) _, hV.out.2.2.1.setCell hn0 _, by have := hV.out.2.2.2.1; omega, by simp; omega⟩⟩
       have hnp : 0 < ni := by omega
       have hol : (o.length : Int) < 800 := by omega
       have hol2 := hid hol'
       replace hni := hid hni
       replace hqi := hid hqi
       replace hmi := hid hmi
       replace hfin := hid hfin
       clear hstep hqn hmn hq9 hm60 hr01 hn
       replace hP := hid hP
       replace hPi := hid hPi
       replace hP2 := hid hP2
       replace hP60 := hid hP60
       go_wp2_with fail
       go_roundw
       case rel => exact hfin.out _ _ (by first | rfl | exact val_int (by have := hqi.out; omega)) (by have := hmi.out; omega)
       case measure => simp [intOf]; have := hol2.out; omega
    case h2 =>
     rintro a wc ⟨r0, o, r, c, hP4, hd0, hz0, f0, f5⟩
     obtain ⟨u, hu, ha⟩ := frame130 a hd0 hz0
     rw [(hu 0).trans f0, (hu 5).trans f5] at ha
     clear f0 f5 hu hd0 hz0
     subst ha
     obtain ⟨hS, hFr, hBl, ⟨hr01, hr1k⟩, hrl, hol⟩ := hP4.out
     have f8 := hFr.free 800
     have c8 := hFr.cell 800 (by decide)
     have hone : ∃ d q, o = d :: q ∧ d ≠ 0 := by
      rcases hS.hd with ⟨_, h⟩ | h
      ·have : 0 < 2 ^ k := Nat.pow_pos (by decide)
       omega
      ·exact h
     have hDec : Dec (wc.setCell ⟨B, 800, none⟩ (.int .i64 o.length)) B o (dp - ((r0 : Int) - 1)) neg := by
      refine ⟨_, hFr.set 800 (by decide) _, ⟨fun i hi => ?_, ?_, ?_, ?_, ?_, hol, hS.nine⟩⟩
      ·rw [upd_other (by omega)]; exact hS.dg i hi
      ·rw [upd_same]
      ·rw [upd_other (by decide)]; exact hS.dp
      ·rw [upd_other (by decide)]; exact hS.ng
      ·rw [upd_other (by decide)]; exact hS.tr
     have htr := trim182 B o _ neg hone _ hDec n0 hn0
     have hfin : ∀ w', (∃ ds' k, o = ds' ++ List.replicate k 0 ∧ (∃ d r, ds' = d :: r ∧ d ≠ 0) ∧ (∀ x, ds'.getLast? = some x → x ≠ 0) ∧ Dec w' B ds' (dp - ((r0 : Int) - 1)) neg) ∧ Below n0 (wc.setCell ⟨B, 800, none⟩ (.int .i64 o.length)) w' → R w' := by
      rintro w' ⟨⟨ds', j, h1, h2, h3, h4⟩, h5⟩
      rw [hR.out]
      refine ⟨⟨ds', _, h4, h2, h3, ?_, by omega, by omega⟩, (hBl.setCell hn0 _).trans (h5.mono (Nat.le_refl _))⟩
      have hq := hS.eq
      rw [Nat.add_zero, List.take_of_length_le hrl] at hq
      have hd := DV_right (o := o) (k := k) (r := r0) (t := r) hv.out (by rw [hq, show ds.length - r = 0 by omega, Nat.pow_zero, Nat.mul_one]) hS.rr hr01
      rw [h1, DV_trim] at hd
      exact hd
     replace htr := hid htr
     replace hfin := hid hfin
     clear hS hFr hBl hr01 hrl hone hDec
     go_wp2_with fail
     go_at_call 182
     refine htr.out.mono ?_
     rintro e w2 ⟨rfl, h1⟩
     go_wp2_with fail
     go_end0
     exact ⟨rfl, hfin.out _ h1⟩
end
end Go.Proofs.YtlgneiaenanfaaaGreatDoor
