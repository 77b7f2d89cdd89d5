/- Walks and plain laws, merged: FgP FgR FgS. No condition. -/
import Derived.Test.YtlgneiaenanfaaaGreatDoorKq15
namespace Go.Proofs.YtlgneiaenanfaaaGreatDoor
open Go.RowKit
set_option linter.unusedVariables false
set_option linter.unusedSimpArgs false
set_option maxRecDepth 100000
set_option maxHeartbeats 64000000
section
set_option maxRecDepth 100000
def Ct (w : World) : Prop := ∃ g og, w.cell? ⟨9, 0, none⟩ = some (.slice (some ⟨g, og, none⟩) 61 61) ∧ ∀ k, 1 ≤ k → k ≤ 60 → ∃ (D : Nat) (cs : List Nat) (s : ByteArray), w.cell? ⟨g, og + k * 2, none⟩ = some (.int .i64 D) ∧ w.cell? ⟨g, og + k * 2 + 1, none⟩ = some (.string s) ∧ Cheat k D cs ∧ TxD s cs ∧ D ≤ 19
structure LS (k δ : Nat) (ds : List Nat) (dp : Int) (neg : Bool) (j n : Nat) (o : List Nat) (c : Nat → Value) : Prop where
 jl : j ≤ ds.length
 eq : dnum (ds.drop j) * 2 ^ k = n * 10 ^ o.length + dnum o
 nb : n ≤ 2 ^ k
 ol : ds.length - j ≤ o.length ∧ (0 < j → o.length = ds.length - j)
 of : o.length ≤ ds.length + δ
 dg : ∀ i (h : i < o.length), c (ds.length + δ - o.length + i) = .int .u8 ((48 + o[i] : Nat) : Int)
 un : ∀ i (h : i < ds.length), i < j → c i = .int .u8 ((48 + ds[i] : Nat) : Int)
 nd : c 800 = .int .i64 ds.length
 dp : c 801 = .int .i64 dp
 ng : c 802 = .bool neg
 tr : c 803 = .bool false
 nine : DG o
theorem LS.put {k δ : Nat} {ds : List Nat} {dp : Int} {neg : Bool} {j j' n n' d m : Nat} {o : List Nat} {c : Nat → Value} (h : LS k δ ds dp neg j n o c) (hm : m = n + d * 2 ^ k) (hr : o.length < ds.length + δ) (h8 : ds.length + δ ≤ 800)
  (hj : (∃ hj : j' < ds.length, j = j' + 1 ∧ d = ds[j']) ∨ (j = 0 ∧ j' = 0 ∧ d = 0)) (h9 : d ≤ 9) (hn : n' = m / 10) :
  LS k δ ds dp neg j' n' (m % 10 :: o) (upd c (ds.length + δ - (o.length + 1)) (.int .u8 ((48 + m % 10 : Nat) : Int))) := by
 have hd9 : d * 2 ^ k ≤ 9 * 2 ^ k := Nat.mul_le_mul_right _ h9
 have hol := h.ol
 have hnb := h.nb
 refine ⟨by have := h.jl; omega, ?_, by omega, ?_, by simp; omega, ?_, ?_, ?_, ?_, ?_, ?_, ?_⟩
 ·rw [List.length_cons, dnum_cons, Nat.pow_succ]
  have e1 : n' * (10 ^ o.length * 10) + (m % 10 * 10 ^ o.length + dnum o) = m * 10 ^ o.length + dnum o := by
   have e2 := Nat.div_add_mod m 10
   rw [hn, Nat.mul_comm (10 ^ o.length) 10, ← Nat.mul_assoc, ← Nat.add_assoc, ← Nat.add_mul]
   rw [show m / 10 * 10 + m % 10 = m by omega]
  rw [e1, hm, Nat.add_mul]
  rcases hj with ⟨hj1, rfl, rfl⟩ | ⟨rfl, rfl, rfl⟩
  ·rw [List.drop_eq_getElem_cons hj1, dnum_cons, Nat.add_mul, h.eq, List.length_drop, ← hol.2 (by omega)]
   have : ds[j'] * 10 ^ o.length * 2 ^ k = ds[j'] * 2 ^ k * 10 ^ o.length := by simp only [Nat.mul_assoc, Nat.mul_left_comm, Nat.mul_comm]
   omega
  ·rw [h.eq]; simp
 ·rcases hj with ⟨hj1, rfl, rfl⟩ | ⟨rfl, rfl, rfl⟩
  ·simp; omega
  ·simp; omega
 ·intro i hi
  simp at hi
  cases i with
  | zero =>
   simp only [Nat.add_zero, List.length_cons]
   rw [upd_same]
   simp
  | succ i =>
   rw [List.length_cons, upd_other (by omega)]
   have := h.dg i (by omega)
   rw [show ds.length + δ - (o.length + 1) + (i + 1) = ds.length + δ - o.length + i by omega, this]
   simp
 ·intro i hi hij
  rw [upd_other (by rcases hj with ⟨hj1, rfl, rfl⟩ | ⟨rfl, rfl, rfl⟩ <;> omega)]
  exact h.un i hi (by rcases hj with ⟨hj1, rfl, rfl⟩ | ⟨rfl, rfl, rfl⟩ <;> omega)
 ·rw [upd_other (by omega)]; exact h.nd
 ·rw [upd_other (by omega)]; exact h.dp
 ·rw [upd_other (by omega)]; exact h.ng
 ·rw [upd_other (by omega)]; exact h.tr
 ·intro x hx
  rcases List.mem_cons.1 hx with rfl | hx
  ·omega
  ·exact h.nine x hx
theorem frame137 (a : Act) (hd : a.defers = []) (hs : a.tmps.size = 137) : ∃ u : Nat → Value, (∀ i, u i = a.tmps.getD i undef) ∧ a = { tmps := #[u 0, u 1, u 2, u 3, u 4, u 5, u 6, u 7, u 8, u 9, u 10, u 11, u 12, u 13, u 14, u 15, u 16, u 17, u 18, u 19, u 20, u 21, u 22, u 23, u 24, u 25, u 26, u 27, u 28, u 29, u 30, u 31, u 32, u 33, u 34, u 35, u 36, u 37, u 38, u 39, u 40, u 41, u 42, u 43, u 44, u 45, u 46, u 47, u 48, u 49, u 50, u 51, u 52, u 53, u 54, u 55, u 56, u 57, u 58, u 59, u 60, u 61, u 62, u 63, u 64, u 65, u 66, u 67, u 68, u 69, u 70, u 71, u 72, u 73, u 74, u 75, u 76, u 77, u 78, u 79, u 80, u 81, u 82, u 83, u 84, u 85, u 86, u 87, u 88, u 89, u 90, u 91, u 92, u 93, u 94, u 95, u 96, u 97, u 98, u 99, u 100, u 101, u 102, u 103, u 104, u 105, u 106, u 107, u 108, u 109, u 110, u 111, u 112, u 113, u 114, u 115, u 116, u 117, u 118, u 119, u 120, u 121, u 122, u 123, u 124, u 125, u 126, u 127, u 128, u 129, u 130, u 131, u 132, u 133, u 134, u 135, u 136], defers := [] } := by
 refine ⟨fun i => a.tmps.getD i undef, fun _ => rfl, ?_⟩
 obtain ⟨t, d⟩ := a
 simp only at hd hs
 subst hd
 congr 1
 have e : t = ((List.range 137).map fun i => t.getD i undef).toArray := by
  apply Array.ext
  ·simp [hs]
  ·intro i h1 h2
   simp [Array.getD, h1]
 exact e.trans (by kernel_rfl)
def L5 (k δ : Nat) (ds : List Nat) (dp : Int) (neg : Bool) (B n0 : Nat) (w : World) (a b d : Value) (wr : World) : Prop := ∃ (j n : Nat) (o : List Nat) (c : Nat → Value), a = .int .i64 ((j : Int) - 1) ∧ b = .int .i64 ((ds.length : Int) + δ - o.length) ∧ d = .int .u64 n ∧ Hid (LS k δ ds dp neg j n o c ∧ Fn wr B c ∧ Below n0 w wr)
def L6 (k δ : Nat) (ds : List Nat) (dp : Int) (neg : Bool) (B n0 : Nat) (w : World) (b d : Value) (wr : World) : Prop := ∃ (n : Nat) (o : List Nat) (c : Nat → Value), b = .int .i64 ((ds.length : Int) + δ - o.length) ∧ d = .int .u64 n ∧ Hid (LS k δ ds dp neg 0 n o c ∧ Fn wr B c ∧ Below n0 w wr)
theorem left183 (B : Nat) (ds : List Nat) (dp : Int) (neg : Bool) (k : Nat) (hk : 1 ≤ k ∧ k ≤ 60) (h0 : ∃ d r, ds = d :: r ∧ d ≠ 0) (w : World) (hw : Dec w B ds dp neg) (hct : Ct w) (n0 : Nat) (hn0 : n0 ≤ B) (X Y : Nat) (hv : DV ds dp X Y) (hlb : ∀ D, 10 ^ (D - 1) ≤ 2 ^ k → ds.length + D ≤ 800) (hdp : -100000 ≤ dp ∧ dp ≤ 100000) :
  Calls Tryz.prog 183 #[.pointer (some ⟨B, 0, none⟩), .int .u64 k] w fun e w' => e = .returned (.tuple #[]) ∧ (∃ ds' dp', Dec w' B ds' dp' neg ∧ (∃ d r, ds' = d :: r ∧ d ≠ 0) ∧ (∀ x, ds'.getLast? = some x → x ≠ 0) ∧ DV ds' dp' (X * 2 ^ k) Y ∧ dp ≤ dp' ∧ dp' ≤ dp + 19) ∧ Below n0 w w' := by
 obtain ⟨R, hR⟩ : ∃ R : World → Prop, R = fun w' => (∃ ds' dp', Dec w' B ds' dp' neg ∧ (∃ d r, ds' = d :: r ∧ d ≠ 0) ∧ (∀ x, ds'.getLast? = some x → x ≠ 0) ∧ DV ds' dp' (X * 2 ^ k) Y ∧ dp ≤ dp' ∧ dp' ≤ dp + 19) ∧ Below n0 w w' := ⟨_, rfl⟩
 suffices hx : Calls Tryz.prog 183 #[.pointer (some ⟨B, 0, none⟩), .int .u64 k] w fun e w' => e = .returned (.tuple #[]) ∧ R w' from hx.mono fun e w' h => ⟨h.1, by have := h.2; rw [hR] at this; exact this⟩
 replace hR := hid hR
 obtain ⟨P, hP⟩ : ∃ P, P = 2 ^ k := ⟨_, rfl⟩
 have hP60 : P ≤ 1152921504606846976 := by
  rw [hP, show 1152921504606846976 = 2 ^ 60 from rfl]
  exact Nat.pow_le_pow_right (by decide) hk.2
 have hpw : Hid ((2 : Int) ^ k = (P : Int)) := hid (by rw [hP]; simp)
 obtain ⟨c0, hF, hD⟩ := hw
 have cnd := hF.cell 800 (by decide)
 rw [hD.nd] at cnd
 have hlen := hD.len
 have hk64 : k < 64 := by omega
 have hmin : min k 64 = k := by omega
 obtain ⟨g, og, g9, gt⟩ := hct
 obtain ⟨D, cs, s, gd, gs, hch, htx, hD19⟩ := gt k hk.1 hk.2
 have hcl : cs.length ≤ 800 := by have := hch.len; omega
 have hlD := hlb D hch.lo
 clear hlb
 have hpre := prefix213 B 800 ds cs c0 s htx
 obtain ⟨δ, hδ⟩ : ∃ δ, δ = D - (if lexLt ds cs then 1 else 0) := ⟨_, rfl⟩
 have hcount := ls_count hch hD.nine h0 δ hδ
 have hδ19 : δ ≤ 19 := by omega
 have hlδ : ds.length + δ ≤ 800 := by omega
 have hD1 := hch.D1
 replace hcount := hid hcount
 replace hF := hid hF
 replace hD := hid hD
 replace h0 := hid h0
 replace hv := hid hv
 replace hch := hid hch
 replace htx := hid htx
 replace hδ := hid hδ
 replace hpre := hid hpre
 replace hP := hid hP
 replace hP60 := hid hP60
 clear gt
 have hk2 : (k : Int) ≤ 60 := by omega
 have hl2 : (ds.length : Int) ≤ 800 := by omega
 go_enter Tryz.func183, Tryz.ntmps183
 refine wp_seq_k fun K1 h1 => ?_
 have h1' := hid h1
 clear h1
 go_wp2_with fail
 refine h1'.out _ _ ?_
 clear h1'
 refine cut_seq (fun a' w' => ∃ (q : Nat), Hid (w' = w.drewN q) ∧ a'.defers = [] ∧ a'.tmps.size = 137 ∧ a'.tmps.getD 0 undef = .pointer (some ⟨B, 0, none⟩) ∧ a'.tmps.getD 1 undef = .int .u64 k ∧ a'.tmps.getD 4 undef = .int .i64 δ) ?h1 ?h2
 case h1 =>
  intro K hK
  have hK' := hid hK
  clear hK
  go_wp2_with fail
  go_quiet ((go_at_call 213; exact Calls.quiet_of (hpre.out _ (hF.out.drewN _) hD.out.dg hlen hD.out.nine hch.out.dg hcl ⟨hlen, by decide⟩)))
  cases hlx : lexLt ds cs
  ·have hδ2 : δ = D := by have := hδ.out; rw [hlx] at this; simpa using this
   have hδ3 : (D : Int) = (δ : Int) := by omega
   replace hδ2 := hid hδ2
   go_wp2_with fail
   exact hK'.out _ _ ⟨_, hid rfl, rfl, rfl, rfl, rfl, (by first | rfl | exact val_int hδ3)⟩
  ·have hδ2 : δ = D - 1 := by have := hδ.out; rw [hlx] at this; simpa using this
   have hδ3 : (D : Int) - 1 = (δ : Int) := by omega
   replace hδ2 := hid hδ2
   go_wp2_with fail
   exact hK'.out _ _ ⟨_, hid rfl, rfl, rfl, rfl, rfl, (by first | rfl | exact val_int hδ3)⟩
 case h2 =>
  rintro a wc ⟨q, hq0, hd0, hz0, f0, f1, f4⟩
  obtain ⟨u, hu, ha⟩ := frame137 a hd0 hz0
  rw [(hu 0).trans f0, (hu 1).trans f1, (hu 4).trans f4] at ha
  clear f0 f1 f4 hu hd0 hz0
  subst ha
  obtain rfl := hq0.out
  refine wp_seq_k fun K1 h1 => ?_
  have h1' := hid h1
  clear h1
  go_wp2_with fail
  refine h1'.out _ _ ?_
  clear h1'
  refine wp_seq_k fun K1 h1 => ?_
  have h1' := hid h1
  clear h1
  go_wp2_with fail
  refine h1'.out _ _ ?_
  clear h1'
  refine wp_seq_k fun K1 h1 => ?_
  have h1' := hid h1
  clear h1
  go_wp2_with fail
  refine h1'.out _ _ ?_
  clear h1'
  refine cut_seq (fun a' w' => ∃ (n : Nat) (o : List Nat) (c : Nat → Value), Hid (LS k δ ds dp neg 0 n o c ∧ Fn w' B c ∧ Below n0 w w') ∧ a'.defers = [] ∧ a'.tmps.size = 137 ∧ a'.tmps.getD 0 undef = .pointer (some ⟨B, 0, none⟩) ∧ a'.tmps.getD 1 undef = .int .u64 k ∧ a'.tmps.getD 4 undef = .int .i64 δ ∧ a'.tmps.getD 6 undef = .int .i64 ((ds.length : Int) + δ - o.length) ∧ a'.tmps.getD 7 undef = .int .u64 n) ?h1 ?h2
  case h1 =>
   intro K hK
   have hK' := hid hK
   clear hK
   go_wp2_with fail
   go_loopw [5, 6, 7] (fun a b d wr => L5 k δ ds dp neg B n0 w a b d wr) (fun a _ _ _ => (intOf a + 1).toNat)
   case atStart =>
    refine ⟨ds.length, 0, [], c0, rfl, by simp, rfl, hid ⟨⟨Nat.le_refl _, by simp [dnum_nil], Nat.zero_le _, ⟨by omega, fun _ => by simp⟩, by simp, fun i hi => by simp at hi, fun i hi _ => hD.out.dg i hi, hD.out.nd, hD.out.dp, hD.out.ng, hD.out.tr, fun d hd => by cases hd⟩, hF.out.drewN _, below_drewN (Below.refl _ _) _⟩⟩
   case round =>
    obtain ⟨j, n, o, c, rfl, rfl, rfl, hV⟩ := hrel
    by_cases hj : j = 0
    ·subst hj
     have hfin : Hid (LS k δ ds dp neg 0 n o c ∧ Fn wr B c ∧ Below n0 w wr) := hV
     go_wp2_with fail
     exact hK'.out _ _ ⟨n, o, c, hfin, rfl, rfl, rfl, rfl, rfl, rfl, rfl⟩
    ·obtain ⟨j', rfl⟩ : ∃ j', j = j' + 1 := ⟨j - 1, by omega⟩
     have hjl := hV.out.1.jl
     have hol := hV.out.1.ol.2 (by omega)
     have hro : o.length < ds.length + δ := by omega
     have hFr := hV.out.2.1
     obtain ⟨p, hp⟩ : ∃ p, p = ds.length + δ - (o.length + 1) := ⟨_, rfl⟩
     have hwp : (ds.length : Int) + δ - o.length = (p : Int) + 1 := by omega
     have cp := hFr.cell p (by omega)
     have fp := hFr.free p
     have hpi : (p : Int) < 800 := by omega
     rw [hwp]
     have ej : ((j' + 1 : Nat) : Int) - 1 = (j' : Int) := by omega
     rw [ej]
     have cx := hFr.cell j' (by omega)
     rw [hV.out.1.un j' (by omega) (by omega)] at cx
     have h9 : ds[j'] ≤ 9 := hD.out.nine _ (List.getElem_mem (by omega))
     obtain ⟨m, hm⟩ : ∃ m, m = n + ds[j'] * 2 ^ k := ⟨_, rfl⟩
     have hput := hV.out.1.put (j' := j') hm hro (by omega) (Or.inl ⟨by omega, rfl, rfl⟩) h9 rfl
     obtain ⟨x, hx⟩ : ∃ x, x = ds[j'] := ⟨_, rfl⟩
     rw [← hx] at cx h9 hm
     obtain ⟨xi, hxi⟩ : ∃ xi : Int, xi = (x : Int) := ⟨_, rfl⟩
     have hcx : ((48 + x : Nat) : Int) = 48 + xi := by omega
     rw [hcx] at cx
     have hx0 : 0 ≤ xi := by omega
     have hx9 : xi ≤ 9 := by omega
     have hnb := hV.out.1.nb
     rw [← hP.out] at hnb hm
     have hP60' := hP60.out
     have hxP : x * P ≤ 9 * P := Nat.mul_le_mul_right _ h9
     obtain ⟨sn, hsn⟩ : ∃ sn, sn = x * P := ⟨_, rfl⟩
     rw [← hsn] at hm hxP
     obtain ⟨si, hsi⟩ : ∃ si : Int, si = (sn : Int) := ⟨_, rfl⟩
     have hsl : xi * 2 ^ k = si := by rw [hpw.out, hxi, hsi, hsn]; simp
     have hs0 : 0 ≤ si := by omega
     have hs1 : si ≤ 10376293541461622784 := by omega
     obtain ⟨ni, hni⟩ : ∃ ni : Int, ni = (n : Int) := ⟨_, rfl⟩
     rw [← hni]
     have hni0 : 0 ≤ ni := by omega
     have hni1 : ni ≤ 1152921504606846976 := by omega
     obtain ⟨mi, hmi⟩ : ∃ mi : Int, mi = (m : Int) := ⟨_, rfl⟩
     obtain ⟨qi, hqi⟩ : ∃ qi : Int, qi = ((m / 10 : Nat) : Int) := ⟨_, rfl⟩
     obtain ⟨ri, hri⟩ : ∃ ri : Int, ri = ((m % 10 : Nat) : Int) := ⟨_, rfl⟩
     have hq : mi / 10 = qi := by omega
     have hr : mi - 10 * qi = ri := by omega
     have hm0 : 0 ≤ mi := by omega
     have hm1 : mi ≤ 11529215046068469760 := by omega
     have hq0 : 0 ≤ qi := by omega
     have hq1 : qi ≤ 1152921504606846976 := by omega
     have hr0 : 0 ≤ ri := by omega
     have hr1 : ri ≤ 9 := by omega
     have hms : ni + si = mi := by omega
     have e48 : 48 + xi - 48 = xi := by omega
     have hj8 : (j' : Int) < 800 := by omega
     have hfin : ∀ (v : Value) (b d : Int), v = .int .u8 ((48 + m % 10 : Nat) : Int) → b = (p : Int) → d = ((m / 10 : Nat) : Int) → L5 k δ ds dp neg B n0 w (.int .i64 ((j' : Int) - 1)) (.int .i64 b) (.int .u64 d) (wr.setCell ⟨B, p, none⟩ v) := by
      rintro v b d rfl rfl rfl
      refine ⟨j', m / 10, _ :: o, _, rfl, ?_, rfl, hid ⟨hput, ?_, hV.out.2.2.setCell hn0 _⟩⟩
      ·rw [List.length_cons]; exact val_int (by omega)
      ·rw [← hp]; exact hFr.set p (by omega) _
     replace hmi := hid hmi
     replace hqi := hid hqi
     replace hri := hid hri
     replace hxi := hid hxi
     replace hsi := hid hsi
     replace hni := hid hni
     replace hfin := hid hfin
     replace hwp := hid hwp
     clear hput hcx hx h9 hm hsn hxP hnb hP60' hjl hol hro ej hp hj
     go_wp2_with fail
     go_roundw
     case rel => exact hfin.out _ _ _ (by first | rfl | exact val_int (by have := hri.out; omega)) (by omega) (by have := hqi.out; omega)
     case measure => simp [intOf]
  case h2 =>
   rintro a wc ⟨n1, o1, c1, hP5, hd0, hz0, f0, f1, f4, f6, f7⟩
   obtain ⟨u, hu, ha⟩ := frame137 a hd0 hz0
   rw [(hu 0).trans f0, (hu 1).trans f1, (hu 4).trans f4, (hu 6).trans f6, (hu 7).trans f7] at ha
   clear f0 f1 f4 f6 f7 hu hd0 hz0
   subst ha
   refine cut_seq (fun a' w' => ∃ (o : List Nat) (c : Nat → Value), Hid (LS k δ ds dp neg 0 0 o c ∧ Fn w' B c ∧ Below n0 w w') ∧ a'.defers = [] ∧ a'.tmps.size = 137 ∧ a'.tmps.getD 0 undef = .pointer (some ⟨B, 0, none⟩) ∧ a'.tmps.getD 4 undef = .int .i64 δ) ?h1 ?h2
   case h1 =>
    intro K hK
    have hK' := hid hK
    clear hK
    go_wp2_with fail
    go_loopw [6, 7] (fun b d wr => L6 k δ ds dp neg B n0 w b d wr) (fun _ d _ => (intOf d).toNat)
    case atStart => exact ⟨n1, o1, c1, rfl, rfl, hid hP5.out⟩
    case round =>
     obtain ⟨n, o, c, rfl, rfl, hV⟩ := hrel
     by_cases hn : n = 0
     ·subst hn
      have hfin : Hid (LS k δ ds dp neg 0 0 o c ∧ Fn wr B c ∧ Below n0 w wr) := hV
      go_wp2_with fail
      exact hK'.out _ _ ⟨o, c, hfin, rfl, rfl, rfl, rfl⟩
     ·have hro : o.length < ds.length + δ := by
       apply Classical.byContradiction
       intro hc
       have h1 := hV.out.1.eq
       rw [List.drop_zero] at h1
       have h2 := hcount.out.2
       have h3 : 10 ^ (ds.length + δ) ≤ 10 ^ o.length := Nat.pow_le_pow_right (by decide) (by omega)
       have h4 : 1 * 10 ^ o.length ≤ n * 10 ^ o.length := Nat.mul_le_mul_right _ (by omega)
       omega
      have hFr := hV.out.2.1
      obtain ⟨p, hp⟩ : ∃ p, p = ds.length + δ - (o.length + 1) := ⟨_, rfl⟩
      have hwp : (ds.length : Int) + δ - o.length = (p : Int) + 1 := by omega
      have cp := hFr.cell p (by omega)
      have fp := hFr.free p
      have hpi : (p : Int) < 800 := by omega
      rw [hwp]
      obtain ⟨m, hm⟩ : ∃ m, m = n := ⟨_, rfl⟩
      have hput := hV.out.1.put (j' := 0) (d := 0) (m := m) (by omega) hro (by omega) (Or.inr ⟨rfl, rfl, rfl⟩) (by decide) rfl
      have hnb := hV.out.1.nb
      rw [← hP.out, ← hm] at hnb
      have hP60' := hP60.out
      rw [← hm]
      obtain ⟨mi, hmi⟩ : ∃ mi : Int, mi = (m : Int) := ⟨_, rfl⟩
      obtain ⟨qi, hqi⟩ : ∃ qi : Int, qi = ((m / 10 : Nat) : Int) := ⟨_, rfl⟩
      obtain ⟨ri, hri⟩ : ∃ ri : Int, ri = ((m % 10 : Nat) : Int) := ⟨_, rfl⟩
      have hq : mi / 10 = qi := by omega
      have hr : mi - 10 * qi = ri := by omega
      have hm0 : 0 ≤ mi := by omega
      have hm1 : mi ≤ 11529215046068469760 := by omega
      have hq0 : 0 ≤ qi := by omega
      have hq1 : qi ≤ 1152921504606846976 := by omega
      have hr0 : 0 ≤ ri := by omega
      have hr1 : ri ≤ 9 := by omega
      rw [← hmi]
      have hmp : 0 < mi := by omega
      have hlt : qi < mi := by omega
      have hfin : ∀ (v : Value) (b d : Int), v = .int .u8 ((48 + m % 10 : Nat) : Int) → b = (p : Int) → d = ((m / 10 : Nat) : Int) → L6 k δ ds dp neg B n0 w (.int .i64 b) (.int .u64 d) (wr.setCell ⟨B, p, none⟩ v) := by
       rintro v b d rfl rfl rfl
       refine ⟨m / 10, _ :: o, _, ?_, rfl, hid ⟨hput, ?_, hV.out.2.2.setCell hn0 _⟩⟩
       ·rw [List.length_cons]; exact val_int (by omega)
       ·rw [← hp]; exact hFr.set p (by omega) _
      replace hmi := hid hmi
      replace hqi := hid hqi
      replace hri := hid hri
      replace hfin := hid hfin
      replace hwp := hid hwp
      clear hput hm hnb hP60' hro hp hn
      go_wp2_with fail
      go_roundw
      case rel => exact hfin.out _ _ _ (by first | rfl | exact val_int (by have := hri.out; omega)) (by omega) (by have := hqi.out; omega)
      case measure => simp [intOf]; omega
   case h2 =>
    rintro a wc ⟨o, c, hP6, hd0, hz0, f0, f4⟩
    obtain ⟨u, hu, ha⟩ := frame137 a hd0 hz0
    rw [(hu 0).trans f0, (hu 4).trans f4] at ha
    clear f0 f4 hu hd0 hz0
    subst ha
    obtain ⟨hS, hFr, hBl⟩ := hP6.out
    have hall : o.length = ds.length + δ := by
     have h1 := hS.eq
     rw [List.drop_zero, Nat.zero_mul, Nat.zero_add] at h1
     have h2 := dnum_lt hS.nine
     have h3 := hcount.out.1
     have h4 := hS.of
     apply Classical.byContradiction
     intro hc
     have h5 : 10 ^ o.length ≤ 10 ^ (ds.length + δ - 1) := Nat.pow_le_pow_right (by decide) (by omega)
     omega
    have hl1 : 1 ≤ ds.length := by obtain ⟨d, q, e, _⟩ := h0.out; rw [e]; simp
    have hone : ∃ d q, o = d :: q ∧ d ≠ 0 := head_ne (by omega) hS.nine (by
     have h1 := hS.eq
     rw [List.drop_zero, Nat.zero_mul, Nat.zero_add] at h1
     rw [hall, ← h1]
     exact hcount.out.1)
    have f0 := hFr.free 800
    have f1 := hFr.free 801
    have e0 := hFr.cell 800 (by decide)
    have e1 := hFr.cell 801 (by decide)
    rw [hS.nd] at e0
    rw [hS.dp] at e1
    have hli : (ds.length : Int) + δ ≤ 800 := by omega
    have hli0 : 0 ≤ (ds.length : Int) := by omega
    obtain ⟨li, hl⟩ : ∃ li : Int, li = (ds.length : Int) + δ := ⟨_, rfl⟩
    obtain ⟨dpi, hdpi⟩ : ∃ dpi : Int, dpi = dp + δ := ⟨_, rfl⟩
    have hDec : Dec ((wc.setCell ⟨B, 800, none⟩ (.int .i64 li)).setCell ⟨B, 801, none⟩ (.int .i64 dpi)) B o dpi neg := by
     refine ⟨_, (hFr.set 800 (by decide) _).set 801 (by decide) _, ⟨fun i hi => ?_, ?_, ?_, ?_, ?_, by omega, hS.nine⟩⟩
     ·rw [upd_other (by omega), upd_other (by omega)]
      have := hS.dg i hi
      rwa [show ds.length + δ - o.length + i = i by omega] at this
     ·rw [upd_other (by decide), upd_same, hl, hall]; simp
     ·rw [upd_same]
     ·rw [upd_other (by decide), upd_other (by decide)]; exact hS.ng
     ·rw [upd_other (by decide), upd_other (by decide)]; exact hS.tr
    have hDec2 : Dec (((wc.setCell ⟨B, 800, none⟩ (.int .i64 li)).setCell ⟨B, 800, none⟩ (.int .i64 li)).setCell ⟨B, 801, none⟩ (.int .i64 dpi)) B o dpi neg := by
     refine ⟨_, ((hFr.set 800 (by decide) _).set 800 (by decide) _).set 801 (by decide) _, ⟨fun i hi => ?_, ?_, ?_, ?_, ?_, by omega, hS.nine⟩⟩
     ·rw [upd_other (by omega), upd_other (by omega), upd_other (by omega)]
      have := hS.dg i hi
      rwa [show ds.length + δ - o.length + i = i by omega] at this
     ·rw [upd_other (by decide), upd_same, hl, hall]; simp
     ·rw [upd_same]
     ·rw [upd_other (by decide), upd_other (by decide), upd_other (by decide)]; exact hS.ng
     ·rw [upd_other (by decide), upd_other (by decide), upd_other (by decide)]; exact hS.tr
    have htr := trim182 B o _ neg hone _ hDec n0 hn0
    have htr2 := trim182 B o _ neg hone _ hDec2 n0 hn0
    have key : ∀ w1 w', Below n0 wc w1 → (∃ ds' k, o = ds' ++ List.replicate k 0 ∧ (∃ d r, ds' = d :: r ∧ d ≠ 0) ∧ (∀ x, ds'.getLast? = some x → x ≠ 0) ∧ Dec w' B ds' dpi neg) ∧ Below n0 w1 w' → R w' := by
     rintro w1 w' hB1 ⟨⟨ds', j, h1, h2, h3, h4⟩, h5⟩
     rw [hR.out]
     refine ⟨⟨ds', _, h4, h2, h3, ?_, by omega, by omega⟩, (hBl.trans hB1).trans (h5.mono (Nat.le_refl _))⟩
     have hq := hS.eq
     rw [List.drop_zero, Nat.zero_mul, Nat.zero_add] at hq
     have hd := DV_left (o := o) (δ := (δ : Int)) hv.out hq.symm (by rw [hall]; simp)
     rw [← hdpi, h1, DV_trim] at hd
     exact hd
    have hfin := fun w' => key _ w' (((Below.refl n0 wc).setCell hn0 (.int .i64 li) (p := ⟨B, 800, none⟩)).setCell hn0 (.int .i64 dpi) (p := ⟨B, 801, none⟩))
    have hfin2 := fun w' => key _ w' ((((Below.refl n0 wc).setCell hn0 (.int .i64 li) (p := ⟨B, 800, none⟩)).setCell hn0 (.int .i64 li) (p := ⟨B, 800, none⟩)).setCell hn0 (.int .i64 dpi) (p := ⟨B, 801, none⟩))
    have hli8 : li ≤ 800 := by omega
    have hdp1 := hdp.1
    have hdp2 := hdp.2
    have hl' : (ds.length : Int) + δ = li := hl.symm
    have hdpi' : dp + (δ : Int) = dpi := hdpi.symm
    clear key
    replace htr := hid htr
    replace htr2 := hid htr2
    replace hfin := hid hfin
    replace hfin2 := hid hfin2
    replace hl := hid hl
    replace hdpi := hid hdpi
    clear hS hFr hBl hall hl1 hone hDec hDec2 hli
    by_cases h8 : li = 800
    ·subst h8
     clear htr hfin
     go_wp2_with fail
     go_at_call 182
     refine htr2.out.mono ?_
     rintro e w2 ⟨rfl, h1⟩
     go_wp2_with fail
     go_end0
     exact ⟨rfl, hfin2.out _ h1⟩
    ·have h8' : li < 800 := by omega
     clear htr2 hfin2 hli8 h8
     go_wp2_with fail
     go_at_call 182
     refine htr.out.mono ?_
     rintro e w2 ⟨rfl, h1⟩
     go_wp2_with fail
     go_end0
     exact ⟨rfl, hfin.out _ h1⟩
end
section
set_option maxRecDepth 100000
theorem Below.nil' (n : Nat) (w : World) : Below n w w := Below.refl n w
theorem shiftL144 (B : Nat) (ds : List Nat) (dp : Int) (neg : Bool) (k : Nat) (hk : 1 ≤ k ∧ k ≤ 60) (h0 : ∃ d r, ds = d :: r ∧ d ≠ 0) (w : World) (hw : Dec w B ds dp neg) (hct : Ct w) (n0 : Nat) (hn0 : n0 ≤ B) (X Y : Nat) (hv : DV ds dp X Y) (hlb : ∀ D, 10 ^ (D - 1) ≤ 2 ^ k → ds.length + D ≤ 800) (hdp : -100000 ≤ dp ∧ dp ≤ 100000) :
  Calls Tryz.prog 144 #[.pointer (some ⟨B, 0, none⟩), .int .i64 k] w fun e w' => e = .returned (.tuple #[]) ∧ (∃ ds' dp', Dec w' B ds' dp' neg ∧ (∃ d r, ds' = d :: r ∧ d ≠ 0) ∧ (∀ x, ds'.getLast? = some x → x ≠ 0) ∧ DV ds' dp' (X * 2 ^ k) Y ∧ dp ≤ dp' ∧ dp' ≤ dp + 19) ∧ Below n0 w w' := by
 have hl := hid (left183 B ds dp neg k hk h0 w hw hct n0 hn0 X Y hv hlb hdp)
 obtain ⟨R, hR⟩ : ∃ R : World → Prop, R = fun w' => (∃ ds' dp', Dec w' B ds' dp' neg ∧ (∃ d r, ds' = d :: r ∧ d ≠ 0) ∧ (∀ x, ds'.getLast? = some x → x ≠ 0) ∧ DV ds' dp' (X * 2 ^ k) Y ∧ dp ≤ dp' ∧ dp' ≤ dp + 19) ∧ Below n0 w w' := ⟨_, rfl⟩
 suffices hx : Calls Tryz.prog 144 #[.pointer (some ⟨B, 0, none⟩), .int .i64 k] w fun e w' => e = .returned (.tuple #[]) ∧ R w' from hx.mono fun e w' h => ⟨h.1, by have := h.2; rw [hR] at this; exact this⟩
 replace hR := hid hR
 obtain ⟨c, hF, hD⟩ := hw
 have c8 := hF.cell 800 (by decide)
 rw [hD.nd] at c8
 have hl1 : 1 ≤ ds.length := by obtain ⟨d, q, e, _⟩ := h0; rw [e]; simp
 have hz : ((ds.length : Int) == 0) = false := bne_of (by omega)
 have hk1 : 0 < (k : Int) := by omega
 have hk2 : ¬ 60 < (k : Int) := by omega
 have hk3 : (k : Int) ≤ 60 := by omega
 clear hF hD h0 hv hlb
 go_enter Tryz.func144, Tryz.ntmps144
 go_wp2_with fail
 refine wp_loop_rounds 1 ?_
 rw [rounds_succ]
 go_wp2_with fail
 go_at_call 183
 refine hl.out.mono ?_
 rintro e w1 ⟨rfl, h1⟩
 go_wp2_with fail
 go_end0
 exact ⟨rfl, by rw [hR.out]; exact h1⟩
def LR (X Y n : Nat) (dp : Int) (neg : Bool) (B n0 : Nat) (w : World) (a : Value) (wr : World) : Prop := ∃ (m : Nat) (ds1 : List Nat) (dp1 : Int), a = .int .i64 (-(m : Int)) ∧ Hid (1 ≤ m ∧ m ≤ n ∧ Dec wr B ds1 dp1 neg ∧ (∃ d r, ds1 = d :: r ∧ d ≠ 0) ∧ DV ds1 dp1 X (Y * 2 ^ (n - m)) ∧ dp1 ≤ dp ∧ dp - 17 * ((n : Int) - m) ≤ dp1 ∧ Below n0 w wr)
theorem shiftR144 (B : Nat) (ds : List Nat) (dp : Int) (neg : Bool) (n : Nat) (hn : 1 ≤ n ∧ n ≤ 2000) (h0 : ∃ d r, ds = d :: r ∧ d ≠ 0) (w : World) (hw : Dec w B ds dp neg) (n0 : Nat) (hn0 : n0 ≤ B) (X Y f : Nat) (hY : 0 < Y) (hv : DV ds dp X Y) (hf : Y * 2 ^ n ∣ X * 10 ^ f) (hb : dp + (f : Int) ≤ 800) (hdp : -10000 ≤ dp ∧ dp ≤ 10000) (t : Int) (ht : t = -(n : Int)) :
  Calls Tryz.prog 144 #[.pointer (some ⟨B, 0, none⟩), .int .i64 t] w fun e w' => e = .returned (.tuple #[]) ∧ (∃ ds' dp', Dec w' B ds' dp' neg ∧ (∃ d r, ds' = d :: r ∧ d ≠ 0) ∧ (∀ x, ds'.getLast? = some x → x ≠ 0) ∧ DV ds' dp' X (Y * 2 ^ n) ∧ dp' ≤ dp ∧ dp - 40000 ≤ dp') ∧ Below n0 w w' := by
 obtain ⟨R, hR⟩ : ∃ R : World → Prop, R = fun w' => (∃ ds' dp', Dec w' B ds' dp' neg ∧ (∃ d r, ds' = d :: r ∧ d ≠ 0) ∧ (∀ x, ds'.getLast? = some x → x ≠ 0) ∧ DV ds' dp' X (Y * 2 ^ n) ∧ dp' ≤ dp ∧ dp - 40000 ≤ dp') ∧ Below n0 w w' := ⟨_, rfl⟩
 suffices hx : Calls Tryz.prog 144 #[.pointer (some ⟨B, 0, none⟩), .int .i64 t] w fun e w' => e = .returned (.tuple #[]) ∧ R w' from hx.mono fun e w' h => ⟨h.1, by have := h.2; rw [hR] at this; exact this⟩
 replace hR := hid hR
 subst ht
 have hst : LR X Y n dp neg B n0 w (.int .i64 (-(n : Int))) w := ⟨n, ds, dp, rfl, hid ⟨hn.1, Nat.le_refl _, hw, h0, by rw [Nat.sub_self, Nat.pow_zero, Nat.mul_one]; exact hv, Int.le_refl _, by omega, Below.refl _ _⟩⟩
 replace hst := hid hst
 obtain ⟨c, hF, hD⟩ := hw
 have c8 := hF.cell 800 (by decide)
 rw [hD.nd] at c8
 have hl1 : 1 ≤ ds.length := by obtain ⟨d, q, e, _⟩ := h0; rw [e]; simp
 have hz : ((ds.length : Int) == 0) = false := bne_of (by omega)
 have hk1 : ¬ 0 < -(n : Int) := by omega
 have hk2 : -(n : Int) < 0 := by omega
 have hn1 := hn.1
 have hn2 := hn.2
 replace hf := hid hf
 clear hF hD h0 hv hn
 go_enter Tryz.func144, Tryz.ntmps144
 go_wp2_with fail
 go_loopw [1] (fun a wr => LR X Y n dp neg B n0 w a wr) (fun a _ => (-(intOf a)).toNat)
 case atStart => exact hst.out
 case round =>
  obtain ⟨m, ds1, dp1, rfl, hV⟩ := hrel
  by_cases hm : 60 < m
  ·have hr := hid (right184 B ds1 dp1 neg 60 (by decide) hV.out.2.2.2.1 wr hV.out.2.2.1 n0 hn0 X (Y * 2 ^ (n - m)) f (Nat.mul_pos hY (Nat.pow_pos (by decide))) hV.out.2.2.2.2.1 (by
    refine Nat.dvd_trans ?_ hf.out
    rw [Nat.mul_assoc, ← Nat.pow_add]
    exact Nat.mul_dvd_mul_left _ (Nat.pow_dvd_pow 2 (by have := hV.out.2.1; omega))) (by have := hV.out.2.2.2.2.2.1; omega) (by have := hV.out.2.2.2.2.2.1; have := hV.out.2.2.2.2.2.2.1; have := hV.out.2.1; omega))
   have hfin : ∀ (a : Int) w2, a = -((m - 60 : Nat) : Int) → ((∃ ds' dp', Dec w2 B ds' dp' neg ∧ (∃ d r, ds' = d :: r ∧ d ≠ 0) ∧ (∀ x, ds'.getLast? = some x → x ≠ 0) ∧ DV ds' dp' X (Y * 2 ^ (n - m) * 2 ^ 60) ∧ dp' ≤ dp1 ∧ dp1 - 1000 ≤ dp') ∧ Below n0 wr w2) → LR X Y n dp neg B n0 w (.int .i64 a) w2 := by
    rintro a w2 rfl ⟨⟨ds', dp', a1, a2, a3, a4, a5, a6⟩, a7⟩
    obtain ⟨b1, b2, b3, b4, b5, b6, b7, b8⟩ := hV.out
    refine ⟨m - 60, ds', dp', rfl, hid ⟨by omega, by omega, a1, a2, ?_, by omega, by omega, b8.trans a7⟩⟩
    rw [Nat.mul_assoc, ← Nat.pow_add, show n - m + 60 = n - (m - 60) by omega] at a4
    exact a4
   have hmn : m ≤ 2000 := by have := hV.out.2.1; omega
   have hmi : -(m : Int) < -60 := by omega
   have hm' := hid hm
   replace hfin := hid hfin
   clear hm
   go_wp2_with fail
   go_at_call 184
   refine hr.out.mono ?_
   rintro e w2 ⟨rfl, h1⟩
   have h1' := hid h1
   clear h1
   go_wp2_with fail
   go_roundw
   case rel => exact hfin.out _ _ (by have := hm'.out; omega) h1'.out
   case measure => simp [intOf]; have := hm'.out; omega
  ·have hr := hid (right184 B ds1 dp1 neg m (by have := hV.out.1; omega) hV.out.2.2.2.1 wr hV.out.2.2.1 n0 hn0 X (Y * 2 ^ (n - m)) f (Nat.mul_pos hY (Nat.pow_pos (by decide))) hV.out.2.2.2.2.1 (by
    refine Nat.dvd_trans ?_ hf.out
    rw [Nat.mul_assoc, ← Nat.pow_add]
    exact Nat.mul_dvd_mul_left _ (Nat.pow_dvd_pow 2 (by have := hV.out.2.1; omega))) (by have := hV.out.2.2.2.2.2.1; omega) (by have := hV.out.2.2.2.2.2.1; have := hV.out.2.2.2.2.2.2.1; have := hV.out.2.1; omega))
   have hfin : ∀ w2, ((∃ ds' dp', Dec w2 B ds' dp' neg ∧ (∃ d r, ds' = d :: r ∧ d ≠ 0) ∧ (∀ x, ds'.getLast? = some x → x ≠ 0) ∧ DV ds' dp' X (Y * 2 ^ (n - m) * 2 ^ m) ∧ dp' ≤ dp1 ∧ dp1 - 1000 ≤ dp') ∧ Below n0 wr w2) → R w2 := by
    rintro w2 ⟨⟨ds', dp', a1, a2, a3, a4, a5, a6⟩, a7⟩
    obtain ⟨b1, b2, b3, b4, b5, b6, b7, b8⟩ := hV.out
    rw [hR.out]
    refine ⟨⟨ds', dp', a1, a2, a3, ?_, by omega, by omega⟩, b8.trans a7⟩
    rw [Nat.mul_assoc, ← Nat.pow_add, show n - m + m = n by omega] at a4
    exact a4
   have hmi : ¬ -(m : Int) < -60 := by omega
   have hmi2 : (m : Int) ≤ 60 := by omega
   have hnn : - -(m : Int) = (m : Int) := by omega
   replace hfin := hid hfin
   clear hm
   go_wp2_with fail
   go_at_call 184
   refine hr.out.mono ?_
   rintro e w2 ⟨rfl, h1⟩
   have h1' := hid h1
   clear h1
   go_wp2_with fail
   go_end0
   exact ⟨rfl, hfin.out _ h1'.out⟩
end
section
set_option maxRecDepth 100000
theorem up185 (B : Nat) (ds : List Nat) (dp : Int) (neg : Bool) (w : World) (hw : Dec w B ds dp neg) (nd : Int) (hb : -100000 ≤ nd ∧ nd ≤ 100000) :
  Calls Tryz.prog 185 #[.pointer (some ⟨B, 0, none⟩), .int .i64 nd] w fun e w' => e = .returned (.bool (rUp ds nd)) ∧ w = w' := by
 obtain ⟨R, hR⟩ : ∃ R, R = rUp ds nd := ⟨_, rfl⟩
 rw [← hR]
 unfold rUp at hR
 obtain ⟨c, hF, hD⟩ := hw
 have c8 := hF.cell 800 (by decide)
 have c83 := hF.cell 803 (by decide)
 rw [hD.nd] at c8
 rw [hD.tr] at c83
 have hlen := hD.len
 by_cases hneg : nd < 0
 ·rw [if_pos (Or.inl hneg)] at hR
  subst hR
  go_enter Tryz.func185, Tryz.ntmps185
  go_wp2_with fail
  go_ret; exact ⟨rfl, rfl⟩
 by_cases hbig : (ds.length : Int) ≤ nd
 ·rw [if_pos (Or.inr hbig)] at hR
  subst hR
  go_enter Tryz.func185, Tryz.ntmps185
  go_wp2_with fail
  go_ret; exact ⟨rfl, rfl⟩
 rw [if_neg (by omega)] at hR
 obtain ⟨k, rfl⟩ : ∃ k : Nat, nd = (k : Int) := ⟨nd.toNat, by omega⟩
 have hk : k < ds.length := by omega
 rw [show ((k : Int)).toNat = k by omega, getD_at _ _ hk] at hR
 have ck := hF.cell k (by omega)
 rw [hD.dg k hk] at ck
 have hx9 : ds[k] ≤ 9 := hD.nine _ (List.getElem_mem hk)
 have hki : (k : Int) < 800 := by omega
 have hki2 : ¬ (ds.length : Int) ≤ (k : Int) := hbig
 by_cases ht : ds[k] = 5 ∧ k + 1 = ds.length
 ·rw [if_pos ht] at hR
  rw [ht.1] at ck
  have hkl : ((k : Int) + 1 == (ds.length : Int)) = true := by simp; omega
  have hkl2 : (ds.length : Int) = (k : Int) + 1 := by omega
  by_cases hk0 : k = 0
  ·subst hk0
   simp at hR
   subst hR
   clear hx9 ht hk hbig hki2 hkl
   go_enter Tryz.func185, Tryz.ntmps185
   go_wp2_with fail
   go_ret; exact ⟨rfl, rfl⟩
  ·obtain ⟨j, hj⟩ : ∃ j, j = k - 1 := ⟨_, rfl⟩
   have cj := hF.cell j (by omega)
   rw [hD.dg j (by omega)] at cj
   have hy9 : ds[j]'(by omega) ≤ 9 := hD.nine _ (List.getElem_mem (by omega))
   rw [show k - 1 = j by omega, getD_at _ _ (by omega)] at hR
   obtain ⟨y, hy⟩ : ∃ y, y = ds[j]'(by omega) := ⟨_, rfl⟩
   rw [← hy] at hR cj hy9
   obtain ⟨yi, hyi⟩ : ∃ yi : Int, yi = (y : Int) := ⟨_, rfl⟩
   have hcj : ((48 + y : Nat) : Int) = 48 + yi := by omega
   rw [hcj] at cj
   have hy0 : 0 ≤ yi := by omega
   have hy1 : yi ≤ 9 := by omega
   have e48 : 48 + yi - 48 = yi := by omega
   have hkp : 0 < (k : Int) := by omega
   have hR2 : (yi % 2 != 0) = R := by
    rw [hR, decide_eq_true hkp, Bool.true_and]
    have h2 : y % 2 = 0 ∨ y % 2 = 1 := by omega
    rcases h2 with h2 | h2
    ·rw [show yi % 2 = 0 by omega, h2]; rfl
    ·rw [show yi % 2 = 1 by omega, h2]; rfl
   have hk1 : (k : Int) - 1 = (j : Int) := by omega
   have hj8 : (j : Int) < 800 := by omega
   replace hyi := hid hyi
   replace hR := hid hR
   rw [hj] at cj
   replace hj := hid hj
   clear hk1 hj8
   clear hx9 ht hk hy hy9 hcj hk0 hkl hbig
   go_enter Tryz.func185, Tryz.ntmps185
   go_wp2_with fail
   go_ret
   exact ⟨by first | rfl | exact ret_bool hR2, rfl⟩
 ·rw [if_neg ht] at hR
  obtain ⟨x, hx⟩ : ∃ x, x = ds[k] := ⟨_, rfl⟩
  have hx5 : ¬ (x = 5 ∧ k + 1 = ds.length) := by rw [hx]; exact ht
  rw [← hx] at hR ck hx9
  obtain ⟨xi, hxi⟩ : ∃ xi : Int, xi = ((48 + x : Nat) : Int) := ⟨_, rfl⟩
  rw [← hxi] at ck
  have hR2 : decide (53 ≤ xi) = R := by rw [hR]; exact decide_eq_decide.2 (by omega)
  clear ht hx
  go_enter Tryz.func185, Tryz.ntmps185
  by_cases h5 : x = 5
  ·have hkl : ((k : Int) + 1 == (ds.length : Int)) = false := bne_of (by omega)
   have h53 : xi = 53 := by omega
   subst h53
   replace hR := hid hR
   replace hxi := hid hxi
   have hR3 : R = true := by rw [← hR2]; rfl
   clear hx5 hx9 h5 hR2
   subst hR3
   go_wp2_with fail
   go_ret
   exact ⟨rfl, rfl⟩
  ·have h53 : (xi == 53) = false := bne_of (by omega)
   replace hR := hid hR
   replace hxi := hid hxi
   clear hx5 hx9 h5
   go_wp2_with fail
   go_ret
   exact ⟨by first | rfl | exact ret_bool hR2, rfl⟩
def LI1 (ds : List Nat) (dp : Int) (w : World) (a b : Value) (wr : World) : Prop := ∃ i n : Nat, a = .int .i64 i ∧ b = .int .u64 n ∧ Hid (i ≤ ds.length ∧ i ≤ dp.toNat ∧ n = dnum (ds.take i)) ∧ wr = w
def LI2 (ds : List Nat) (dp : Int) (w : World) (a b : Value) (wr : World) : Prop := ∃ i n : Nat, a = .int .i64 i ∧ b = .int .u64 n ∧ Hid (i ≤ dp.toNat ∧ (ds.length ≤ i ∨ dp ≤ i) ∧ n = dnum (ds.take i) * 10 ^ (i - ds.length)) ∧ wr = w
theorem dnum_bd {l : List Nat} (h : DG l) {i : Nat} (hi : i ≤ 18) : dnum (l.take i) * 10 ^ (i - l.length) ≤ 1000000000000000000 := by
 have h1 := dnum_lt (l := l.take i) (fun d hd => h d (List.mem_of_mem_take hd))
 rw [List.length_take] at h1
 have h2 : dnum (l.take i) * 10 ^ (i - l.length) ≤ 10 ^ min i l.length * 10 ^ (i - l.length) := Nat.mul_le_mul_right _ (Nat.le_of_lt h1)
 rw [← Nat.pow_add] at h2
 have h3 : 10 ^ (min i l.length + (i - l.length)) ≤ 10 ^ 18 := Nat.pow_le_pow_right (by decide) (by omega)
 have h4 : (10 : Nat) ^ 18 = 1000000000000000000 := by decide
 omega
theorem rint218 (B : Nat) (ds : List Nat) (dp : Int) (neg : Bool) (w : World) (hw : Dec w B ds dp neg) (hdp : -100000 ≤ dp ∧ dp ≤ 18) :
  Calls Tryz.prog 218 #[.pointer (some ⟨B, 0, none⟩)] w fun e w' => e = .returned (.int .u64 (rInt ds dp)) ∧ w = w' := by
 have hup := hid (up185 B ds dp neg w hw dp (by omega))
 obtain ⟨R, hR⟩ : ∃ R : Int, R = (rInt ds dp : Int) := ⟨_, rfl⟩
 rw [← hR]
 unfold rInt at hR
 obtain ⟨bu, hbu⟩ : ∃ bu, bu = rUp ds dp := ⟨_, rfl⟩
 rw [← hbu] at hup hR
 obtain ⟨c, hF, hD⟩ := hw
 have c8 := hF.cell 800 (by decide)
 have c81 := hF.cell 801 (by decide)
 rw [hD.nd] at c8
 rw [hD.dp] at c81
 have hlen := hD.len
 have hdp1 := hdp.1
 have hdp2 := hdp.2
 have h20 : ¬ 20 < dp := by omega
 replace hR := hid hR
 replace hbu := hid hbu
 replace hF := hid hF
 replace hD := hid hD
 go_enter Tryz.func218, Tryz.ntmps218
 go_wp2_with fail
 go_loopw [3, 4] (fun a b wr => LI1 ds dp w a b wr) (fun a _ _ => ds.length - (intOf a).toNat)
 case atStart => exact ⟨0, 0, rfl, rfl, hid ⟨by omega, by omega, by simp [dnum_nil]⟩, rfl⟩
 case round =>
  obtain ⟨i, n, rfl, rfl, hV, rfl⟩ := hrel
  have hil := hV.out.1
  have hid2 := hV.out.2.1
  by_cases h1 : (i : Int) < dp ∧ i < ds.length
  ·have ci := hF.out.cell i (by omega)
   rw [hD.out.dg i h1.2] at ci
   have hx9 : ds[i]'h1.2 ≤ 9 := hD.out.nine _ (List.getElem_mem h1.2)
   have hnb := dnum_bd hD.out.nine (i := i) (by omega)
   rw [show i - ds.length = 0 by omega, Nat.pow_zero, Nat.mul_one, ← hV.out.2.2] at hnb
   obtain ⟨x, hx⟩ : ∃ x, x = ds[i]'h1.2 := ⟨_, rfl⟩
   have hfin : ∀ v : Int, v = ((n * 10 + ds[i]'h1.2 : Nat) : Int) → LI1 ds dp wr (.int .i64 ((i + 1 : Nat) : Int)) (.int .u64 v) wr := by
    rintro v rfl
    refine ⟨i + 1, _, rfl, rfl, hid ⟨h1.2, by omega, ?_⟩, rfl⟩
    rw [take_snoc' ds i h1.2, dnum_snoc, hV.out.2.2]
    omega
   rw [← hx] at ci hx9 hfin
   obtain ⟨xi, hxi⟩ : ∃ xi : Int, xi = (x : Int) := ⟨_, rfl⟩
   have hcx : ((48 + x : Nat) : Int) = 48 + xi := by omega
   rw [hcx] at ci
   have hx0 : 0 ≤ xi := by omega
   have hx1 : xi ≤ 9 := by omega
   have e48 : 48 + xi - 48 = xi := by omega
   obtain ⟨ni, hni⟩ : ∃ ni : Int, ni = (n : Int) := ⟨_, rfl⟩
   rw [← hni]
   have hn0 : 0 ≤ ni := by omega
   have hn1 : ni ≤ 1000000000000000000 := by omega
   have h11 := h1.1
   have h12 : (i : Int) < (ds.length : Int) := by omega
   have h18 : (i : Int) < 800 := by omega
   have h1' := hid h1
   replace hni := hid hni
   replace hxi := hid hxi
   replace hfin := hid hfin
   clear hx hx9 hnb hcx h1 hil hid2
   go_wp2_with fail
   go_roundw
   case rel => exact hfin.out _ (by have := hni.out; have := hxi.out; omega)
   case measure => simp [intOf]; have := h1'.out.2; omega
  ·have hst : LI2 ds dp wr (.int .i64 i) (.int .u64 n) wr := ⟨i, n, rfl, rfl, hid ⟨hid2, by omega, by rw [show i - ds.length = 0 by omega, Nat.pow_zero, Nat.mul_one]; exact hV.out.2.2⟩, rfl⟩
   have hK : ∀ K : Prop, ((¬ (i : Int) < dp → K) ∧ ((i : Int) < dp → ¬ (i : Int) < (ds.length : Int) → K)) → K := fun K h => by
    by_cases h2 : (i : Int) < dp
    ·exact h.2 h2 (by omega)
    ·exact h.1 h2
   replace hst := hid hst
   clear hil hid2 h1
   refine hK _ ⟨fun h2 => ?_, fun h2 h3 => ?_⟩
   all_goals
    clear hK
    go_wp2_with fail
    go_loopw [3, 4] (fun a b wr2 => LI2 ds dp wr a b wr2) (fun a _ _ => dp.toNat - (intOf a).toNat)
    case atStart => exact hst.out
    case round =>
     obtain ⟨i2, n2, rfl, rfl, hV2, rfl⟩ := hrel
     have hnb := dnum_bd hD.out.nine (i := i2) (by have := hV2.out.1; omega)
     rw [← hV2.out.2.2] at hnb
     by_cases h4 : (i2 : Int) < dp
     ·have hfin : ∀ v : Int, v = ((n2 * 10 : Nat) : Int) → LI2 ds dp wr (.int .i64 ((i2 + 1 : Nat) : Int)) (.int .u64 v) wr := by
       rintro v rfl
       obtain ⟨a1, a2, a3⟩ := hV2.out
       refine ⟨i2 + 1, _, rfl, rfl, hid ⟨by omega, by omega, ?_⟩, rfl⟩
       have hl2 : ds.length ≤ i2 := by omega
       rw [List.take_of_length_le (by omega), show i2 + 1 - ds.length = i2 - ds.length + 1 by omega, Nat.pow_succ, ← Nat.mul_assoc]
       rw [List.take_of_length_le hl2] at a3
       rw [← a3]
      obtain ⟨ni, hni⟩ : ∃ ni : Int, ni = (n2 : Int) := ⟨_, rfl⟩
      rw [← hni]
      have hn0 : 0 ≤ ni := by omega
      have hn1 : ni ≤ 1000000000000000000 := by omega
      have h4' := hid h4
      replace hni := hid hni
      replace hfin := hid hfin
      clear hnb
      go_wp2_with fail
      go_roundw
      case rel => exact hfin.out _ (by have := hni.out; omega)
      case measure => simp [intOf]; have := h4'.out; omega
     ·have hend : (n2 : Int) + (if bu then 1 else 0) = R := by
       rw [hR.out, hV2.out.2.2]
       have : i2 = dp.toNat := by have := hV2.out.1; omega
       rw [this]
       cases bu <;> simp
      obtain ⟨ni, hni⟩ : ∃ ni : Int, ni = (n2 : Int) := ⟨_, rfl⟩
      rw [← hni] at hend ⊢
      have hn0 : 0 ≤ ni := by omega
      have hn1 : ni ≤ 1000000000000000000 := by omega
      replace hni := hid hni
      clear hnb
      cases bu
      ·simp only [Bool.false_eq_true, if_false, Int.add_zero] at hend
       replace hend := hid hend
       go_wp2_with fail
       go_at_call 185
       refine hup.out.mono ?_
       rintro e w2 ⟨rfl, rfl⟩
       go_wp2_with fail
       go_ret
       exact ⟨ret_int hend.out, rfl⟩
      ·simp only [if_true] at hend
       replace hend := hid hend
       go_wp2_with fail
       go_at_call 185
       refine hup.out.mono ?_
       rintro e w2 ⟨rfl, rfl⟩
       go_wp2_with fail
       go_ret
       exact ⟨ret_int hend.out, rfl⟩
end
end Go.Proofs.YtlgneiaenanfaaaGreatDoor
