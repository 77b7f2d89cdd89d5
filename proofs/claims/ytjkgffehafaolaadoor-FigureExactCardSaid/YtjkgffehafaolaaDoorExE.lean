/- Walks: the library's fmtX at precision -1. No condition. -/
import Derived.Test.YtjkgffehafaolaaDoorExC
import Derived.Test.YtjkgffehafaolaaDoorShelf
import Derived.OwnWalk
import Derived.Shelf.Lay
import Derived.Laws.AppendOwn
namespace Go.Proofs.YtjkgffehafaolaaDoor
open Go.RowKit
set_option linter.unusedVariables false
set_option linter.unusedSimpArgs false

theorem and60 (x : Nat) (hx : x < 18446744073709551616) : bits .and .u64 (x : Int) 1152921504606846976 = (((x.testBit 60).toNat * 1152921504606846976 : Nat) : Int) := by
  have h := u64_and_nat x 1152921504606846976 hx (by decide)
  rw [show ((1152921504606846976 : Nat) : Int) = 1152921504606846976 from rfl] at h
  rw [h]
  refine congrArg Int.ofNat ?_
  rw [show (1152921504606846976 : Nat) = 2 ^ 60 from rfl]
  apply Nat.eq_of_testBit_eq
  intro i
  rw [Nat.testBit_and, Nat.testBit_two_pow]
  by_cases hi : 60 = i
  · subst hi
    cases x.testBit 60 <;> simp <;> rfl
  · cases x.testBit 60
    · simp [hi]
    · simp only [hi, Bool.toNat_true, Nat.one_mul, decide_false, Bool.and_false, Nat.testBit_two_pow]
theorem and15 (d : Nat) (hd : d < 16) : bits .and .u64 (d : Int) 15 = (d : Int) := by
  have h := u64_and_nat d 15 (by omega) (by decide)
  rw [show ((15 : Nat) : Int) = 15 from rfl] at h
  rw [h]
  exact congrArg Int.ofNat ((Nat.and_two_pow_sub_one_eq_mod d 4).trans (Nat.mod_eq_of_lt hd))
theorem bit60_lt {m : Nat} (h : m < 4503599627370496) : (m * 256).testBit 60 = false := Nat.testBit_lt_two_pow (by omega)
theorem bit60_ge {m : Nat} (h0 : ¬ m < 4503599627370496) (h1 : m < 9007199254740992) : (m * 256).testBit 60 = true := by
  rw [Nat.testBit_eq_decide_div_mod_eq]
  have : m * 256 / 2 ^ 60 = 1 := by omega
  rw [this]
  rfl
def bv (l : List UInt8) : List Value := l.map (fun b => .int .u8 (b.toNat : Int))
theorem bv_len (l : List UInt8) : (bv l).length = l.length := List.length_map ..
theorem bv_app (a b : List UInt8) : bv (a ++ b) = bv a ++ bv b := List.map_append ..
theorem dig2 {x d y Y : Nat} (hx : x < 4503599627370496) (hx0 : ¬ x = 0) (hd : d = x / 281474976710656) (hy : y = x % 281474976710656) (hY : Y = x * 4096) : d < 16 ∧ (Y : Int) / 1152921504606846976 = (d : Int) ∧ IntKind.u64.wrap ((Y : Int) * 16) = ((y * 16 * 4096 : Nat) : Int) ∧ y * 16 < 4503599627370496 ∧ ¬ Y = 0 := by
  have e1 : (x : Int) = 281474976710656 * (d : Int) + (y : Int) := by subst hd hy; omega
  have e2 : y < 281474976710656 := by subst hy; exact Nat.mod_lt _ (by decide)
  have e3 : d < 16 := by omega
  clear hd hy
  refine ⟨e3, by omega, ?_, by omega, by omega⟩
  rw [IntKind.wrap_u64]
  omega
theorem lit16 : ∀ (d : Nat) (h : d < (⟨#[48, 49, 50, 51, 52, 53, 54, 55, 56, 57, 97, 98, 99, 100, 101, 102]⟩ : ByteArray).size), (⟨#[48, 49, 50, 51, 52, 53, 54, 55, 56, 57, 97, 98, 99, 100, 101, 102]⟩ : ByteArray)[d]'h = hdB d := by
  intro d hd
  match d, hd with
  | 0, _ => rfl
  | 1, _ => rfl
  | 2, _ => rfl
  | 3, _ => rfl
  | 4, _ => rfl
  | 5, _ => rfl
  | 6, _ => rfl
  | 7, _ => rfl
  | 8, _ => rfl
  | 9, _ => rfl
  | 10, _ => rfl
  | 11, _ => rfl
  | 12, _ => rfl
  | 13, _ => rfl
  | 14, _ => rfl
  | 15, _ => rfl
  | d + 16, h => exact absurd h (by show ¬ d + 16 < 16; omega)
/-- append of a literal to a row of one's own -/
theorem ap {ops : Array Oper} {rest : List Oper} {o : Oper} {a : Act} {Q : Exit → Act → World → Prop} {w : World} (W0 : World) (L : Array Value) (hL : L.toList.all (·.oneCell') = true) (hgd : o.guard = none) (s x : Operand)
    (ho : o.op = .call { callee := .builtin .append, args := #[s, x], argTypes := #[56, 56] }) (B : Nat) (v : Value) (n m : Nat) (xs : List Value) (hs : a.eval s = v) (hown : W0.ownsRow B 5 1 v n xs) (hb : Below B w W0) (hB : B ≤ W0.heap.size)
    (hx : a.eval x = .slice (some ⟨W0.heap.size, 0, none⟩) m m) (hm : L.size = m) (hn : n + m ≤ 1000)
    (h : ∀ v' w', w'.ownsRow B 5 1 v' (n + m) (xs ++ L.toList) → Below B w w' → B ≤ w'.heap.size → wpList Tryd.prog ops Q rest (a.put o.dst v') w') : wpList Tryd.prog ops Q (o :: rest) a (W0.alloc (.cells L 5)) := by
  obtain ⟨i, hi, hz0, hz1, hz2⟩ := info_parts (show (Tryd.prog.info? 5).map (fun i => (i.zero, i.size, i.bytes)) = some (some (.int .u8 0), 1, 1) by kernel_rfl)
  refine wpList_append_own _ hgd s x 56 ho B 5 i (.int .u8 0) 1 1 Tryd.underlying56 hi hz0 hz1 hz2 rfl (by decide) v n xs hs (hown.alloc _) ⟨W0.heap.size, 0, none⟩ m m L.toList hx (by simp; omega) ?_ ?_ (by unfold maxLen; omega) (by omega) (by simp; omega) fun v' w' h1 h2 _ => ?_
  · intro j u hj
    have hz : j < L.size := by
      have := (List.getElem?_eq_some_iff.1 hj).1
      simpa using this
    have he : ((⟨W0.heap.size, 0, none⟩ : Addr).add j) = ⟨W0.heap.size, j, none⟩ := by unfold Addr.add; split <;> simp_all
    rw [he]
    have hc : L[j]? = some u := by rw [← Array.getElem?_toList]; exact hj
    unfold World.cell?
    rw [heap_alloc_new]
    exact hc
  · intro u hu
    exact List.all_eq_true.1 hL u hu
  · have hk : Below B W0 w' := (((Below.refl B W0).alloc hB _).grown h2 (by simp; omega) fun k hk => (hown.lt k hk).1)
    exact h v' w' h1 (hb.trans hk) (Nat.le_trans hB hk.size)
theorem dvd_stepx {r k : Nat} (hr : r < 4503599627370496) (h : 4503599627370496 ∣ r * 16 ^ (k + 1)) : 4503599627370496 ∣ (r % 281474976710656 * 16) * 16 ^ k := by
  have e : r * 16 ^ (k + 1) = (r % 281474976710656 * 16) * 16 ^ k + 4503599627370496 * (r / 281474976710656 * 16 ^ k) := by
    have h1 : r = r % 281474976710656 + 281474976710656 * (r / 281474976710656) := (Nat.mod_add_div r _).symm
    rw [Nat.pow_succ]
    generalize r / 281474976710656 = q at *
    generalize r % 281474976710656 = t at *
    subst h1
    generalize 16 ^ k = z
    rw [show (4503599627370496 : Nat) = 281474976710656 * 16 from rfl]
    simp only [Nat.add_mul, Nat.mul_add, Nat.mul_comm, Nat.mul_left_comm, Nat.mul_assoc]
  rw [e] at h
  exact (Nat.dvd_add_left ⟨_, rfl⟩).1 h
theorem dvd_endx {r : Nat} (hr : r < 4503599627370496) (h : 4503599627370496 ∣ r * 16 ^ 0) : r = 0 := by
  rw [Nat.pow_zero, Nat.mul_one] at h
  exact Nat.eq_zero_of_dvd_of_lt h hr
theorem ext16x : ∀ (d : Nat), d < 16 → (⟨#[48, 49, 50, 51, 52, 53, 54, 55, 56, 57, 97, 98, 99, 100, 101, 102]⟩ : ByteArray).extract d (d + 1) = ⟨#[hdB d]⟩
  | 0, _ => by apply ByteArray.ext; rfl
  | 1, _ => by apply ByteArray.ext; rfl
  | 2, _ => by apply ByteArray.ext; rfl
  | 3, _ => by apply ByteArray.ext; rfl
  | 4, _ => by apply ByteArray.ext; rfl
  | 5, _ => by apply ByteArray.ext; rfl
  | 6, _ => by apply ByteArray.ext; rfl
  | 7, _ => by apply ByteArray.ext; rfl
  | 8, _ => by apply ByteArray.ext; rfl
  | 9, _ => by apply ByteArray.ext; rfl
  | 10, _ => by apply ByteArray.ext; rfl
  | 11, _ => by apply ByteArray.ext; rfl
  | 12, _ => by apply ByteArray.ext; rfl
  | 13, _ => by apply ByteArray.ext; rfl
  | 14, _ => by apply ByteArray.ext; rfl
  | 15, _ => by apply ByteArray.ext; rfl
  | d + 16, h => absurd h (by omega)
theorem dig_factsx {x d y : Nat} (hx : x < 4503599627370496) (hd : d = x / 281474976710656) (hy : y = x % 281474976710656) : d < 16 ∧ (x : Int) / 281474976710656 = (d : Int) ∧ IntKind.u64.wrap ((d : Int) + 1) = (d : Int) + 1 ∧ IntKind.u64.wrap ((d : Int) * 281474976710656) = (d : Int) * 281474976710656 ∧ IntKind.u64.wrap ((x : Int) - (d : Int) * 281474976710656) = (y : Int) ∧ IntKind.u64.wrap ((y : Int) * 16) = ((y * 16 : Nat) : Int) ∧ y * 16 < 4503599627370496 := by
  have e1 : (x : Int) = 281474976710656 * (d : Int) + (y : Int) := by subst hd hy; omega
  have e2 : y < 281474976710656 := by subst hy; exact Nat.mod_lt _ (by decide)
  have e3 : d < 16 := by omega
  clear hd hy
  refine ⟨e3, by omega, ?_, ?_, ?_, ?_, by omega⟩ <;> rw [IntKind.wrap_u64] <;> omega
def cD (x : Nat) : UInt8 := UInt8.ofNat (48 + x)
theorem cD_int {x : Nat} (h : x < 100) : ((cD x).toNat : Int) = (x : Int) + 48 := by
  unfold cD
  simp only [UInt8.toNat_ofNat']
  omega
/-- the library's exponent -/
def dgL (u : Nat) : List UInt8 := if u < 100 then [cD (u / 10), cD (u % 10)] else if u < 1000 then [cD (u / 100), cD (u / 10 % 10), cD (u % 10)] else [cD (u / 1000), cD (u / 100 % 10), cD (u / 10 % 10), cD (u % 10)]
def eT (E : Int) : List UInt8 := 112 :: (if E < 0 then 45 else 43) :: dgL E.natAbs
theorem bvD1 {u : Nat} (h : u < 100) : bv (dgL u) = [.int .u8 ((u : Int) / 10 + 48), .int .u8 ((u : Int) % 10 + 48)] := by
  unfold dgL; rw [if_pos h]
  simp only [bv, List.map_cons, List.map_nil, cD_int (show u / 10 < 100 by omega), cD_int (show u % 10 < 100 by omega)]
  rfl
theorem bvD2 {u : Nat} (h0 : ¬ u < 100) (h : u < 1000) : bv (dgL u) = [.int .u8 ((u : Int) / 100 + 48), .int .u8 ((u : Int) / 10 % 10 + 48), .int .u8 ((u : Int) % 10 + 48)] := by
  unfold dgL; rw [if_neg h0, if_pos h]
  simp only [bv, List.map_cons, List.map_nil, cD_int (show u / 100 < 100 by omega), cD_int (show u / 10 % 10 < 100 by omega), cD_int (show u % 10 < 100 by omega)]
  rfl
theorem bvD3 {u : Nat} (h0 : ¬ u < 1000) (h : u ≤ 1100) : bv (dgL u) = [.int .u8 ((u : Int) / 1000 + 48), .int .u8 ((u : Int) / 100 % 10 + 48), .int .u8 ((u : Int) / 10 % 10 + 48), .int .u8 ((u : Int) % 10 + 48)] := by
  unfold dgL; rw [if_neg (by omega), if_neg h0]
  simp only [bv, List.map_cons, List.map_nil, cD_int (show u / 1000 < 100 by omega), cD_int (show u / 100 % 10 < 100 by omega), cD_int (show u / 10 % 10 < 100 by omega), cD_int (show u % 10 < 100 by omega)]
  rfl
theorem bvE_neg {u : Nat} (h : 0 < u) : bv (eT (-(u : Int))) = [.int .u8 112] ++ [.int .u8 45] ++ bv (dgL u) := by
  unfold eT; rw [if_pos (by omega), Int.natAbs_neg, Int.natAbs_natCast]; rfl
theorem bvE_pos {u : Nat} : bv (eT (u : Int)) = [.int .u8 112] ++ [.int .u8 43] ++ bv (dgL u) := by
  unfold eT; rw [if_neg (by omega), Int.natAbs_natCast]; rfl
/-- what the library writes ahead of the exponent -/
def xL (t : Nat) : List UInt8 := [48, 120, 49] ++ ((if t = 0 then [] else [46]) ++ hxs 13 t)
def xH (neg : Bool) (N : Nat × Int) : List UInt8 := (if neg then [45] else []) ++ xL (N.1 - 4503599627370496) ++ eT (N.2 + 52)
theorem dg1 {u : Nat} (h : u < 100) : IntKind.u8.wrap ((u : Int) / 10) = (u : Int) / 10 ∧ IntKind.u8.wrap ((u : Int) % 10) = (u : Int) % 10 := by
  simp only [IntKind.wrap_u8]; omega
theorem dg2 {u : Nat} (h0 : ¬ u < 100) (h : u < 1000) : IntKind.u8.wrap ((u : Int) / 100) = (u : Int) / 100 ∧ IntKind.u8.wrap ((u : Int) / 10 % 10) = (u : Int) / 10 % 10 ∧ IntKind.u8.wrap ((u : Int) % 10) = (u : Int) % 10 := by
  simp only [IntKind.wrap_u8]; omega
theorem dg3 {u : Nat} (h0 : ¬ u < 1000) (h : u ≤ 1100) : IntKind.u8.wrap ((u : Int) / 1000) = (u : Int) / 1000 ∧ IntKind.u8.wrap ((u : Int) / 100) = (u : Int) / 100 ∧ IntKind.u8.wrap ((u : Int) / 10 % 10) = (u : Int) / 10 % 10 ∧ IntKind.u8.wrap ((u : Int) % 10) = (u : Int) % 10 := by
  simp only [IntKind.wrap_u8]; omega
set_option maxRecDepth 100000 in
set_option maxHeartbeats 20000000 in
theorem fmtX46 (neg : Bool) (B m0 : Nat) (p0 : Int) (v : Value) (N : Nat × Int) (hN : N = nrm 52 m0 p0) (h0 : 0 < m0) (h1 : m0 < 9007199254740992) (h2 : -1074 ≤ p0) (h3 : p0 ≤ 971) (w : World) (hB : B ≤ w.heap.size) (ho : w.ownsRow B 5 1 v 0 (bv [])) :
    Calls Tryd.prog 46 #[v, .int .i64 (-1), .int .u8 120, .bool neg, .int .u64 m0, .int .i64 (p0 + 52), .int .i64 52] w fun e w' => ∃ v' n, e = .returned v' ∧ n ≤ 40 ∧ w'.ownsRow B 5 1 v' n (bv (xH neg N)) ∧ Below B w w' := by
  have HN := hid hN
  have hO := hid ho
  obtain ⟨R, hR⟩ : ∃ R, R = bv (xH neg N) := ⟨_, rfl⟩
  rw [← hR]
  have HR := hid hR
  clear hR
  have hge := hid (show 4503599627370496 ≤ m0 * 2 ^ 52 from by omega)
  have hne : ((m0 : Int) == 0) = false := beq_eq_false_iff_ne.2 (by omega)
  have hw1 : IntKind.u64.wrap ((m0 : Int) * 256) = ((m0 * 256 : Nat) : Int) := by rw [IntKind.wrap_u64]; omega
  have H01 := hid (And.intro h0 h1)
  have hBw := hid hB
  clear hN ho h1 h0 hB
  go_enter Tryd.func46, Tryd.ntmps46
  go_wp2_with fail
  clear hw1 hne
  go_loopw [4, 5] (fun a p wr => ∃ (k m : Nat) (q : Int), a = .int .u64 ((m * 256 : Nat) : Int) ∧ p = .int .i64 (q + 52) ∧ N = nrm k m q ∧ 4503599627370496 ≤ m * 2 ^ k ∧ 0 < m ∧ m < 9007199254740992 ∧ k ≤ 52 ∧ -1126 + (k : Int) ≤ q ∧ q ≤ 971 ∧ wr = w) (fun a _ _ => 9007199254740992 * 256 - (intOf a).toNat)
  case atStart => exact ⟨52, m0, p0, rfl, rfl, HN.out, hge.out, H01.out.1, H01.out.2, by omega, by omega, h3, rfl⟩
  case round =>
    clear HN hge H01 h2 h3
    obtain ⟨k, m, q, rfl, rfl, hN, hge, hm0, hm1, hk, hq0, hq1, rfl⟩ := hrel
    have HN := hid hN
    have HG := hid hge
    clear hN hge
    obtain ⟨M, hM⟩ : ∃ M, M = m * 256 := ⟨_, rfl⟩
    have ha := and60 M (by omega)
    have hMne : ((M : Int) == 0) = false := beq_eq_false_iff_ne.2 (by omega)
    have hMn : ¬ M = 0 := by omega
    have hqa : -1126 ≤ q := by omega
    by_cases hlt : m < 4503599627370496
    · have hw1 : IntKind.u64.wrap ((M : Int) * 2) = ((M * 2 : Nat) : Int) := by rw [IntKind.wrap_u64]; omega
      rw [show M.testBit 60 = false by rw [hM]; exact bit60_lt hlt] at ha
      have ha : bits .and .u64 (M : Int) 1152921504606846976 = 0 := by rw [ha]; rfl
      have HX := hid (And.intro hlt (And.intro hm0 (And.intro hm1 (And.intro hk (And.intro hq0 hM)))))
      rw [← hM]
      clear hlt hm0 hm1 hk hq0 hM
      go_wp2_with fail
      go_roundw
      case rel =>
        obtain ⟨hlt, hm0, hm1, hk, hq0, hM⟩ := HX.out
        obtain ⟨j, rfl⟩ : ∃ j, k = j + 1 := by
          cases k with
          | zero => have := HG.out; simp at this; omega
          | succ j => exact ⟨j, rfl⟩
        refine ⟨j, m * 2, q - 1, by rw [hM]; go_num, by go_num, by rw [HN.out, nrm_lt hlt], ?_, by omega, by omega, by omega, by omega, by omega, trivial⟩
        have := HG.out
        rw [Nat.pow_succ] at this
        rw [Nat.mul_assoc, Nat.mul_comm 2]
        exact this
      case measure =>
        obtain ⟨hlt, hm0, hm1, hk, hq0, hM⟩ := HX.out
        simp only [intOf]
        omega
    · have hN : N = (m, q) := by rw [HN.out, nrm_ge hlt]
      subst hN
      clear HN HG hk
      rw [show M.testBit 60 = true by rw [hM]; exact bit60_ge hlt hm1] at ha
      have ha : bits .and .u64 (M : Int) 1152921504606846976 = 1152921504606846976 := by rw [ha]; rfl
      obtain ⟨t, hmt⟩ : ∃ t, m - 4503599627370496 = t := ⟨_, rfl⟩
      have hsh : (M : Int) / 1152921504606846976 = 1 := by omega
      have hw1 : IntKind.u64.wrap ((M : Int) * 16) = ((t * 4096 : Nat) : Int) := by rw [IntKind.wrap_u64]; omega
      have ht : t < 4503599627370496 := by omega
      have HX := hid (And.intro hmt ht)
      clear ht
      rw [← hM]
      clear hmt hm0 hm1 hlt hM hq0
      have hown := hO.out
      have hbel : Below B wr wr := Below.refl _ _
      have hBl := hBw.out
      have h11 : bits .and .u64 1 1 = 1 := by decide
      have h120 : bits .or .u8 120 32 = 120 := by decide
      obtain ⟨E, hE⟩ : ∃ E, E = q + 52 := ⟨_, rfl⟩
      have hEa : -1074 ≤ E := by omega
      have hEb : E ≤ 1023 := by omega
      have HE := hid hE
      rw [← hE]
      clear hE hqa hq1 hO hBw
      cases neg with
      | true =>
        by_cases ht0 : t = 0
        · have HR2 := hid (show R = bv ([45, 48, 120, 49] ++ eT E) by rw [HR.out]; unfold xH xL; simp only [HX.out.1, ht0, hxs_nil, HE.out]; rfl)
          subst ht0
          go_wp2_with (at_builtin; refine ap _ _ rfl rfl _ _ rfl B _ _ _ _ rfl hown hbel hBl rfl rfl (by decide) ?_; intro v' w' hown hbel hBl)
          refine (Tryd.internal_strconv_lower 120 _).mono ?_
          rintro e w9 ⟨rfl, rfl⟩
          by_cases hE0 : E < 0
          · obtain ⟨u, rfl⟩ : ∃ u : Nat, E = -(u : Int) := ⟨E.natAbs, by omega⟩
            have hu : u ≤ 1100 := by omega
            have hu0 : 0 < u := by omega
            by_cases u1 : u < 100
            · have d1 := dg1 u1
              obtain ⟨e1, e2⟩ := d1
              go_wp2_with (at_builtin; refine ap _ _ rfl rfl _ _ rfl B _ _ _ _ rfl hown hbel hBl rfl rfl (by decide) ?_; intro v' w' hown hbel hBl)
              go_ret
              exact ⟨_, rfl, _, by omega, (congrArg (World.ownsRow _ B 5 1 _ _) (show _ = R by rw [HR2.out]; simp only [bv_app, bvE_neg hu0, bvD1 u1]; simp [bv])).mp hown, hbel⟩
            · by_cases u2 : u < 1000
              · obtain ⟨e1, e2, e3⟩ := dg2 u1 u2
                go_wp2_with (at_builtin; refine ap _ _ rfl rfl _ _ rfl B _ _ _ _ rfl hown hbel hBl rfl rfl (by decide) ?_; intro v' w' hown hbel hBl)
                go_ret
                exact ⟨_, rfl, _, by omega, (congrArg (World.ownsRow _ B 5 1 _ _) (show _ = R by rw [HR2.out]; simp only [bv_app, bvE_neg hu0, bvD2 u1 u2]; simp [bv])).mp hown, hbel⟩
              · obtain ⟨e1, e2, e3, e4⟩ := dg3 u2 hu
                go_wp2_with (at_builtin; refine ap _ _ rfl rfl _ _ rfl B _ _ _ _ rfl hown hbel hBl rfl rfl (by decide) ?_; intro v' w' hown hbel hBl)
                go_ret
                exact ⟨_, rfl, _, by omega, (congrArg (World.ownsRow _ B 5 1 _ _) (show _ = R by rw [HR2.out]; simp only [bv_app, bvE_neg hu0, bvD3 u2 hu]; simp [bv])).mp hown, hbel⟩
          · obtain ⟨u, rfl⟩ : ∃ u : Nat, E = (u : Int) := ⟨E.natAbs, by omega⟩
            have hu : u ≤ 1100 := by omega
            by_cases u1 : u < 100
            · have d1 := dg1 u1
              obtain ⟨e1, e2⟩ := d1
              go_wp2_with (at_builtin; refine ap _ _ rfl rfl _ _ rfl B _ _ _ _ rfl hown hbel hBl rfl rfl (by decide) ?_; intro v' w' hown hbel hBl)
              go_ret
              exact ⟨_, rfl, _, by omega, (congrArg (World.ownsRow _ B 5 1 _ _) (show _ = R by rw [HR2.out]; simp only [bv_app, bvE_pos, bvD1 u1]; simp [bv])).mp hown, hbel⟩
            · by_cases u2 : u < 1000
              · obtain ⟨e1, e2, e3⟩ := dg2 u1 u2
                go_wp2_with (at_builtin; refine ap _ _ rfl rfl _ _ rfl B _ _ _ _ rfl hown hbel hBl rfl rfl (by decide) ?_; intro v' w' hown hbel hBl)
                go_ret
                exact ⟨_, rfl, _, by omega, (congrArg (World.ownsRow _ B 5 1 _ _) (show _ = R by rw [HR2.out]; simp only [bv_app, bvE_pos, bvD2 u1 u2]; simp [bv])).mp hown, hbel⟩
              · obtain ⟨e1, e2, e3, e4⟩ := dg3 u2 hu
                go_wp2_with (at_builtin; refine ap _ _ rfl rfl _ _ rfl B _ _ _ _ rfl hown hbel hBl rfl rfl (by decide) ?_; intro v' w' hown hbel hBl)
                go_ret
                exact ⟨_, rfl, _, by omega, (congrArg (World.ownsRow _ B 5 1 _ _) (show _ = R by rw [HR2.out]; simp only [bv_app, bvE_pos, bvD3 u2 hu]; simp [bv])).mp hown, hbel⟩
        · obtain ⟨X, hXX⟩ : ∃ X, X = hxs 13 t := ⟨_, rfl⟩
          have HR2 := hid (show R = bv (([45, 48, 120, 49, 46] ++ X) ++ eT E) by rw [HR.out]; unfold xH xL; simp only [HX.out.1, ht0, HE.out, ← hXX]; rfl)
          have HXX := hid hXX
          have htn : ¬ t * 4096 = 0 := by omega
          clear hXX
          go_wp2_with (at_builtin; refine ap _ _ rfl rfl _ _ rfl B _ _ _ _ rfl hown hbel hBl rfl rfl (by decide) ?_; intro v' w' hown hbel hBl)
          have hown : World.ownsRow w' B 5 1 v' (5 + ([] : List UInt8).length) (bv ([45, 48, 120, 49, 46] ++ [])) := by simpa [bv] using hown
          go_loopw [0, 4] (fun a y wr2 => ∃ (k x : Nat) (done : List UInt8), y = .int .u64 ((x * 4096 : Nat) : Int) ∧ done ++ hxs k x = X ∧ x < 4503599627370496 ∧ 4503599627370496 ∣ x * 16 ^ k ∧ done.length + k = 13 ∧ wr2.ownsRow B 5 1 a (5 + done.length) (bv ([45, 48, 120, 49, 46] ++ done)) ∧ Below B wr wr2 ∧ B ≤ wr2.heap.size) (fun a _ _ => 40 - lenOf a)
          case atStart => exact ⟨13, t, [], rfl, HXX.out.symm, by have := HX.out.2; omega, ⟨t, by rw [Nat.mul_comm]⟩, rfl, hown, hbel, hBl⟩
          case round =>
            clear hown hbel hBl
            obtain ⟨k, x, done, rfl, hs, hx, hd, hz, hown, hbel, hBl⟩ := hrel
            have HS := hid hs
            have HD := hid hd
            clear hs hd
            obtain ⟨Y, hY⟩ : ∃ Y, Y = x * 4096 := ⟨_, rfl⟩
            rw [← hY]
            by_cases hx0 : x = 0
            · subst hx0
              obtain rfl : Y = 0 := hY
              have hdn : done = X := by have := HS.out; rwa [hxs_nil, List.append_nil] at this
              have HR2 := hid (show R = bv (([45, 48, 120, 49, 46] ++ done) ++ eT E) by rw [hdn]; exact HR2.out)
              have hz13 : done.length ≤ 13 := by omega
              clear HS HD hdn hz hx hw1
              go_wp2_with (at_builtin; refine ap _ _ rfl rfl _ _ rfl B _ _ _ _ rfl hown hbel hBl rfl rfl (by omega) ?_; intro v' w' hown hbel hBl)
              refine (Tryd.internal_strconv_lower 120 _).mono ?_
              rintro e w9 ⟨rfl, rfl⟩
              by_cases hE0 : E < 0
              · obtain ⟨u, rfl⟩ : ∃ u : Nat, E = -(u : Int) := ⟨E.natAbs, by omega⟩
                have hu : u ≤ 1100 := by omega
                have hu0 : 0 < u := by omega
                by_cases u1 : u < 100
                · have d1 := dg1 u1
                  obtain ⟨e1, e2⟩ := d1
                  go_wp2_with (at_builtin; refine ap _ _ rfl rfl _ _ rfl B _ _ _ _ rfl hown hbel hBl rfl rfl (by omega) ?_; intro v' w' hown hbel hBl)
                  go_ret
                  exact ⟨_, rfl, _, by omega, (congrArg (World.ownsRow _ B 5 1 _ _) (show _ = R by rw [HR2.out]; simp only [bv_app, bvE_neg hu0, bvD1 u1]; simp [bv])).mp hown, hbel⟩
                · by_cases u2 : u < 1000
                  · obtain ⟨e1, e2, e3⟩ := dg2 u1 u2
                    go_wp2_with (at_builtin; refine ap _ _ rfl rfl _ _ rfl B _ _ _ _ rfl hown hbel hBl rfl rfl (by omega) ?_; intro v' w' hown hbel hBl)
                    go_ret
                    exact ⟨_, rfl, _, by omega, (congrArg (World.ownsRow _ B 5 1 _ _) (show _ = R by rw [HR2.out]; simp only [bv_app, bvE_neg hu0, bvD2 u1 u2]; simp [bv])).mp hown, hbel⟩
                  · obtain ⟨e1, e2, e3, e4⟩ := dg3 u2 hu
                    go_wp2_with (at_builtin; refine ap _ _ rfl rfl _ _ rfl B _ _ _ _ rfl hown hbel hBl rfl rfl (by omega) ?_; intro v' w' hown hbel hBl)
                    go_ret
                    exact ⟨_, rfl, _, by omega, (congrArg (World.ownsRow _ B 5 1 _ _) (show _ = R by rw [HR2.out]; simp only [bv_app, bvE_neg hu0, bvD3 u2 hu]; simp [bv])).mp hown, hbel⟩
              · obtain ⟨u, rfl⟩ : ∃ u : Nat, E = (u : Int) := ⟨E.natAbs, by omega⟩
                have hu : u ≤ 1100 := by omega
                by_cases u1 : u < 100
                · have d1 := dg1 u1
                  obtain ⟨e1, e2⟩ := d1
                  go_wp2_with (at_builtin; refine ap _ _ rfl rfl _ _ rfl B _ _ _ _ rfl hown hbel hBl rfl rfl (by omega) ?_; intro v' w' hown hbel hBl)
                  go_ret
                  exact ⟨_, rfl, _, by omega, (congrArg (World.ownsRow _ B 5 1 _ _) (show _ = R by rw [HR2.out]; simp only [bv_app, bvE_pos, bvD1 u1]; simp [bv])).mp hown, hbel⟩
                · by_cases u2 : u < 1000
                  · obtain ⟨e1, e2, e3⟩ := dg2 u1 u2
                    go_wp2_with (at_builtin; refine ap _ _ rfl rfl _ _ rfl B _ _ _ _ rfl hown hbel hBl rfl rfl (by omega) ?_; intro v' w' hown hbel hBl)
                    go_ret
                    exact ⟨_, rfl, _, by omega, (congrArg (World.ownsRow _ B 5 1 _ _) (show _ = R by rw [HR2.out]; simp only [bv_app, bvE_pos, bvD2 u1 u2]; simp [bv])).mp hown, hbel⟩
                  · obtain ⟨e1, e2, e3, e4⟩ := dg3 u2 hu
                    go_wp2_with (at_builtin; refine ap _ _ rfl rfl _ _ rfl B _ _ _ _ rfl hown hbel hBl rfl rfl (by omega) ?_; intro v' w' hown hbel hBl)
                    go_ret
                    exact ⟨_, rfl, _, by omega, (congrArg (World.ownsRow _ B 5 1 _ _) (show _ = R by rw [HR2.out]; simp only [bv_app, bvE_pos, bvD3 u2 hu]; simp [bv])).mp hown, hbel⟩
            · obtain ⟨j, rfl⟩ : ∃ j, k = j + 1 := by
                cases k with
                | zero => exact absurd (dvd_endx hx HD.out) hx0
                | succ j => exact ⟨j, rfl⟩
              obtain ⟨d, hd⟩ : ∃ d, d = x / 281474976710656 := ⟨_, rfl⟩
              obtain ⟨y, hy⟩ : ∃ y, y = x % 281474976710656 := ⟨_, rfl⟩
              obtain ⟨hd16, hq1, hq2, hq3, hYn⟩ := dig2 hx hx0 hd hy hY
              have hda := and15 d hd16
              have hown0 := hid hown
              have HDY := hid (And.intro hd (And.intro hy (And.intro hx hY)))
              have HX0 := hid hx0
              have hz12 : done.length ≤ 12 := by omega
              clear hd hy hx hY hx0
              go_wp2_with (at_builtin; refine ap _ _ rfl rfl _ _ rfl B _ _ _ _ rfl hown hbel hBl rfl rfl (by omega) ?_; intro v' w' hown hbel hBl)
              go_roundw
              case rel =>
                obtain ⟨hd, hy, hx, hY⟩ := HDY.out
                refine ⟨j, y * 16, done ++ [hdB d], by go_num, by rw [← HS.out, hxs_pos HX0.out, ← hd, ← hy]; simp, hq3, by rw [hy]; exact dvd_stepx hx HD.out, by simp; omega, ?_, hbel, hBl⟩
                simpa [bv, Nat.add_assoc, lit16] using hown
              case measure =>
                obtain ⟨g1, c1, hv1, -⟩ := own_shape hown (by omega)
                obtain ⟨g2, c2, hv2, -⟩ := own_shape hown0.out (by omega)
                rw [hv1, hv2]
                simp only [lenOf]
                omega
      | false =>
        by_cases ht0 : t = 0
        · have HR2 := hid (show R = bv ([48, 120, 49] ++ eT E) by rw [HR.out]; unfold xH xL; simp only [HX.out.1, ht0, hxs_nil, HE.out]; rfl)
          subst ht0
          go_wp2_with (at_builtin; refine ap _ _ rfl rfl _ _ rfl B _ _ _ _ rfl hown hbel hBl rfl rfl (by decide) ?_; intro v' w' hown hbel hBl)
          refine (Tryd.internal_strconv_lower 120 _).mono ?_
          rintro e w9 ⟨rfl, rfl⟩
          by_cases hE0 : E < 0
          · obtain ⟨u, rfl⟩ : ∃ u : Nat, E = -(u : Int) := ⟨E.natAbs, by omega⟩
            have hu : u ≤ 1100 := by omega
            have hu0 : 0 < u := by omega
            by_cases u1 : u < 100
            · have d1 := dg1 u1
              obtain ⟨e1, e2⟩ := d1
              go_wp2_with (at_builtin; refine ap _ _ rfl rfl _ _ rfl B _ _ _ _ rfl hown hbel hBl rfl rfl (by decide) ?_; intro v' w' hown hbel hBl)
              go_ret
              exact ⟨_, rfl, _, by omega, (congrArg (World.ownsRow _ B 5 1 _ _) (show _ = R by rw [HR2.out]; simp only [bv_app, bvE_neg hu0, bvD1 u1]; simp [bv])).mp hown, hbel⟩
            · by_cases u2 : u < 1000
              · obtain ⟨e1, e2, e3⟩ := dg2 u1 u2
                go_wp2_with (at_builtin; refine ap _ _ rfl rfl _ _ rfl B _ _ _ _ rfl hown hbel hBl rfl rfl (by decide) ?_; intro v' w' hown hbel hBl)
                go_ret
                exact ⟨_, rfl, _, by omega, (congrArg (World.ownsRow _ B 5 1 _ _) (show _ = R by rw [HR2.out]; simp only [bv_app, bvE_neg hu0, bvD2 u1 u2]; simp [bv])).mp hown, hbel⟩
              · obtain ⟨e1, e2, e3, e4⟩ := dg3 u2 hu
                go_wp2_with (at_builtin; refine ap _ _ rfl rfl _ _ rfl B _ _ _ _ rfl hown hbel hBl rfl rfl (by decide) ?_; intro v' w' hown hbel hBl)
                go_ret
                exact ⟨_, rfl, _, by omega, (congrArg (World.ownsRow _ B 5 1 _ _) (show _ = R by rw [HR2.out]; simp only [bv_app, bvE_neg hu0, bvD3 u2 hu]; simp [bv])).mp hown, hbel⟩
          · obtain ⟨u, rfl⟩ : ∃ u : Nat, E = (u : Int) := ⟨E.natAbs, by omega⟩
            have hu : u ≤ 1100 := by omega
            by_cases u1 : u < 100
            · have d1 := dg1 u1
              obtain ⟨e1, e2⟩ := d1
              go_wp2_with (at_builtin; refine ap _ _ rfl rfl _ _ rfl B _ _ _ _ rfl hown hbel hBl rfl rfl (by decide) ?_; intro v' w' hown hbel hBl)
              go_ret
              exact ⟨_, rfl, _, by omega, (congrArg (World.ownsRow _ B 5 1 _ _) (show _ = R by rw [HR2.out]; simp only [bv_app, bvE_pos, bvD1 u1]; simp [bv])).mp hown, hbel⟩
            · by_cases u2 : u < 1000
              · obtain ⟨e1, e2, e3⟩ := dg2 u1 u2
                go_wp2_with (at_builtin; refine ap _ _ rfl rfl _ _ rfl B _ _ _ _ rfl hown hbel hBl rfl rfl (by decide) ?_; intro v' w' hown hbel hBl)
                go_ret
                exact ⟨_, rfl, _, by omega, (congrArg (World.ownsRow _ B 5 1 _ _) (show _ = R by rw [HR2.out]; simp only [bv_app, bvE_pos, bvD2 u1 u2]; simp [bv])).mp hown, hbel⟩
              · obtain ⟨e1, e2, e3, e4⟩ := dg3 u2 hu
                go_wp2_with (at_builtin; refine ap _ _ rfl rfl _ _ rfl B _ _ _ _ rfl hown hbel hBl rfl rfl (by decide) ?_; intro v' w' hown hbel hBl)
                go_ret
                exact ⟨_, rfl, _, by omega, (congrArg (World.ownsRow _ B 5 1 _ _) (show _ = R by rw [HR2.out]; simp only [bv_app, bvE_pos, bvD3 u2 hu]; simp [bv])).mp hown, hbel⟩
        · obtain ⟨X, hXX⟩ : ∃ X, X = hxs 13 t := ⟨_, rfl⟩
          have HR2 := hid (show R = bv (([48, 120, 49, 46] ++ X) ++ eT E) by rw [HR.out]; unfold xH xL; simp only [HX.out.1, ht0, HE.out, ← hXX]; rfl)
          have HXX := hid hXX
          have htn : ¬ t * 4096 = 0 := by omega
          clear hXX
          go_wp2_with (at_builtin; refine ap _ _ rfl rfl _ _ rfl B _ _ _ _ rfl hown hbel hBl rfl rfl (by decide) ?_; intro v' w' hown hbel hBl)
          have hown : World.ownsRow w' B 5 1 v' (4 + ([] : List UInt8).length) (bv ([48, 120, 49, 46] ++ [])) := by simpa [bv] using hown
          go_loopw [0, 4] (fun a y wr2 => ∃ (k x : Nat) (done : List UInt8), y = .int .u64 ((x * 4096 : Nat) : Int) ∧ done ++ hxs k x = X ∧ x < 4503599627370496 ∧ 4503599627370496 ∣ x * 16 ^ k ∧ done.length + k = 13 ∧ wr2.ownsRow B 5 1 a (4 + done.length) (bv ([48, 120, 49, 46] ++ done)) ∧ Below B wr wr2 ∧ B ≤ wr2.heap.size) (fun a _ _ => 40 - lenOf a)
          case atStart => exact ⟨13, t, [], rfl, HXX.out.symm, by have := HX.out.2; omega, ⟨t, by rw [Nat.mul_comm]⟩, rfl, hown, hbel, hBl⟩
          case round =>
            clear hown hbel hBl
            obtain ⟨k, x, done, rfl, hs, hx, hd, hz, hown, hbel, hBl⟩ := hrel
            have HS := hid hs
            have HD := hid hd
            clear hs hd
            obtain ⟨Y, hY⟩ : ∃ Y, Y = x * 4096 := ⟨_, rfl⟩
            rw [← hY]
            by_cases hx0 : x = 0
            · subst hx0
              obtain rfl : Y = 0 := hY
              have hdn : done = X := by have := HS.out; rwa [hxs_nil, List.append_nil] at this
              have HR2 := hid (show R = bv (([48, 120, 49, 46] ++ done) ++ eT E) by rw [hdn]; exact HR2.out)
              have hz13 : done.length ≤ 13 := by omega
              clear HS HD hdn hz hx hw1
              go_wp2_with (at_builtin; refine ap _ _ rfl rfl _ _ rfl B _ _ _ _ rfl hown hbel hBl rfl rfl (by omega) ?_; intro v' w' hown hbel hBl)
              refine (Tryd.internal_strconv_lower 120 _).mono ?_
              rintro e w9 ⟨rfl, rfl⟩
              by_cases hE0 : E < 0
              · obtain ⟨u, rfl⟩ : ∃ u : Nat, E = -(u : Int) := ⟨E.natAbs, by omega⟩
                have hu : u ≤ 1100 := by omega
                have hu0 : 0 < u := by omega
                by_cases u1 : u < 100
                · have d1 := dg1 u1
                  obtain ⟨e1, e2⟩ := d1
                  go_wp2_with (at_builtin; refine ap _ _ rfl rfl _ _ rfl B _ _ _ _ rfl hown hbel hBl rfl rfl (by omega) ?_; intro v' w' hown hbel hBl)
                  go_ret
                  exact ⟨_, rfl, _, by omega, (congrArg (World.ownsRow _ B 5 1 _ _) (show _ = R by rw [HR2.out]; simp only [bv_app, bvE_neg hu0, bvD1 u1]; simp [bv])).mp hown, hbel⟩
                · by_cases u2 : u < 1000
                  · obtain ⟨e1, e2, e3⟩ := dg2 u1 u2
                    go_wp2_with (at_builtin; refine ap _ _ rfl rfl _ _ rfl B _ _ _ _ rfl hown hbel hBl rfl rfl (by omega) ?_; intro v' w' hown hbel hBl)
                    go_ret
                    exact ⟨_, rfl, _, by omega, (congrArg (World.ownsRow _ B 5 1 _ _) (show _ = R by rw [HR2.out]; simp only [bv_app, bvE_neg hu0, bvD2 u1 u2]; simp [bv])).mp hown, hbel⟩
                  · obtain ⟨e1, e2, e3, e4⟩ := dg3 u2 hu
                    go_wp2_with (at_builtin; refine ap _ _ rfl rfl _ _ rfl B _ _ _ _ rfl hown hbel hBl rfl rfl (by omega) ?_; intro v' w' hown hbel hBl)
                    go_ret
                    exact ⟨_, rfl, _, by omega, (congrArg (World.ownsRow _ B 5 1 _ _) (show _ = R by rw [HR2.out]; simp only [bv_app, bvE_neg hu0, bvD3 u2 hu]; simp [bv])).mp hown, hbel⟩
              · obtain ⟨u, rfl⟩ : ∃ u : Nat, E = (u : Int) := ⟨E.natAbs, by omega⟩
                have hu : u ≤ 1100 := by omega
                by_cases u1 : u < 100
                · have d1 := dg1 u1
                  obtain ⟨e1, e2⟩ := d1
                  go_wp2_with (at_builtin; refine ap _ _ rfl rfl _ _ rfl B _ _ _ _ rfl hown hbel hBl rfl rfl (by omega) ?_; intro v' w' hown hbel hBl)
                  go_ret
                  exact ⟨_, rfl, _, by omega, (congrArg (World.ownsRow _ B 5 1 _ _) (show _ = R by rw [HR2.out]; simp only [bv_app, bvE_pos, bvD1 u1]; simp [bv])).mp hown, hbel⟩
                · by_cases u2 : u < 1000
                  · obtain ⟨e1, e2, e3⟩ := dg2 u1 u2
                    go_wp2_with (at_builtin; refine ap _ _ rfl rfl _ _ rfl B _ _ _ _ rfl hown hbel hBl rfl rfl (by omega) ?_; intro v' w' hown hbel hBl)
                    go_ret
                    exact ⟨_, rfl, _, by omega, (congrArg (World.ownsRow _ B 5 1 _ _) (show _ = R by rw [HR2.out]; simp only [bv_app, bvE_pos, bvD2 u1 u2]; simp [bv])).mp hown, hbel⟩
                  · obtain ⟨e1, e2, e3, e4⟩ := dg3 u2 hu
                    go_wp2_with (at_builtin; refine ap _ _ rfl rfl _ _ rfl B _ _ _ _ rfl hown hbel hBl rfl rfl (by omega) ?_; intro v' w' hown hbel hBl)
                    go_ret
                    exact ⟨_, rfl, _, by omega, (congrArg (World.ownsRow _ B 5 1 _ _) (show _ = R by rw [HR2.out]; simp only [bv_app, bvE_pos, bvD3 u2 hu]; simp [bv])).mp hown, hbel⟩
            · obtain ⟨j, rfl⟩ : ∃ j, k = j + 1 := by
                cases k with
                | zero => exact absurd (dvd_endx hx HD.out) hx0
                | succ j => exact ⟨j, rfl⟩
              obtain ⟨d, hd⟩ : ∃ d, d = x / 281474976710656 := ⟨_, rfl⟩
              obtain ⟨y, hy⟩ : ∃ y, y = x % 281474976710656 := ⟨_, rfl⟩
              obtain ⟨hd16, hq1, hq2, hq3, hYn⟩ := dig2 hx hx0 hd hy hY
              have hda := and15 d hd16
              have hown0 := hid hown
              have HDY := hid (And.intro hd (And.intro hy (And.intro hx hY)))
              have HX0 := hid hx0
              have hz12 : done.length ≤ 12 := by omega
              clear hd hy hx hY hx0
              go_wp2_with (at_builtin; refine ap _ _ rfl rfl _ _ rfl B _ _ _ _ rfl hown hbel hBl rfl rfl (by omega) ?_; intro v' w' hown hbel hBl)
              go_roundw
              case rel =>
                obtain ⟨hd, hy, hx, hY⟩ := HDY.out
                refine ⟨j, y * 16, done ++ [hdB d], by go_num, by rw [← HS.out, hxs_pos HX0.out, ← hd, ← hy]; simp, hq3, by rw [hy]; exact dvd_stepx hx HD.out, by simp; omega, ?_, hbel, hBl⟩
                simpa [bv, Nat.add_assoc, lit16] using hown
              case measure =>
                obtain ⟨g1, c1, hv1, -⟩ := own_shape hown (by omega)
                obtain ⟨g2, c2, hv2, -⟩ := own_shape hown0.out (by omega)
                rw [hv1, hv2]
                simp only [lenOf]
                omega

end Go.Proofs.YtjkgffehafaolaaDoor
