/- Walks: the library's ftoa, FormatFloat at 'x', -1. No condition. -/
import Derived.Test.YtjkgffehafaolaaDoorExE
import Derived.Test.YtjkgffehafaolaaDoorExD
import Derived.Laws.Externs
import Derived.Laws.BitsLemmas
namespace Go.Proofs.YtjkgffehafaolaaDoor
open Go.RowKit
set_option linter.unusedVariables false
set_option linter.unusedSimpArgs false

theorem call44 (b : Nat) (w : World) : (callFunc 44 #[.float .f64 b]).run Tryd.prog w = .ok (.value (.int .u64 b)) w := by
  rw [run_callFunc_extern (e := Extern.MathFloatBits.float64bits) Tryd.func44 (by kernel_rfl) (by kernel_rfl) (by kernel_rfl) (by kernel_rfl)]
  rfl
theorem call29 (b : Nat) (w : World) : (callFunc 29 #[.float .f64 b]).run Tryd.prog w = .ok (.value (.int .u64 b)) w := by
  rw [run_callFunc_extern (e := Extern.MathFloatBits.float64bits) Tryd.func29 (by kernel_rfl) (by kernel_rfl) (by kernel_rfl) (by kernel_rfl)]
  rfl
theorem call5 (n : Int) (w : World) : (callFunc 5 #[.int .u64 n]).run Tryd.prog w = .ok (.value (.float .f64 n.toNat)) w := by
  rw [run_callFunc_extern (e := Extern.MathFloatBits.float64frombits) Tryd.func5 (by kernel_rfl) (by kernel_rfl) (by kernel_rfl) (by kernel_rfl)]
  rfl
theorem and2047 (x : Nat) (hx : x < 4096) : bits .and .i64 (x : Int) 2047 = ((x % 2048 : Nat) : Int) := by
  have h := bits_mask .i64 63 (by decide) (fun n a b => by rw [IntKind.wrap_i64]; omega) 11 (by decide) (x : Int) (by omega) (by omega)
  have e : ((2 : Int) ^ 11 - 1) = 2047 := by decide
  rw [e] at h
  rw [h]
  omega
theorem or52 (f : Nat) (hf : f < 4503599627370496) : bits .or .u64 (f : Int) 4503599627370496 = ((f + 4503599627370496 : Nat) : Int) := by
  have h := u64_or_nat f 4503599627370496 (by omega) (by decide)
  rw [show ((4503599627370496 : Nat) : Int) = 4503599627370496 from rfl] at h
  rw [h]
  refine congrArg Int.ofNat ?_
  have h2 := Nat.two_pow_add_eq_or_of_lt (i := 52) (b := f) (by omega) 1
  rw [Nat.or_comm, show (4503599627370496 : Nat) = 2 ^ 52 from rfl, ← Nat.mul_one (2 ^ 52), ← h2]
  omega
set_option maxRecDepth 100000 in
set_option maxHeartbeats 4000000 in
theorem ftoa32 (neg : Bool) (B b r : Nat) (hb0 : b = r + (if neg then 9223372036854775808 else 0)) (hr : r < 9218868437227405312) (hr0 : r ≠ 0) (v : Value) (w : World) (hB : B ≤ w.heap.size) (ho : w.ownsRow B 5 1 v 0 (bv [])) :
    Calls Tryd.prog 32 #[v, .float .f64 b, .int .u8 120, .int .i64 (-1)] w fun e w' => ∃ v' n, e = .returned v' ∧ n ≤ 40 ∧ w'.ownsRow B 5 1 v' n (bv (xH neg (nrm 52 (mantF r) (powF r)))) ∧ Below B w w' := by
  have h44 := call44
  obtain ⟨E, hE⟩ : ∃ E, E = b / 4503599627370496 := ⟨_, rfl⟩
  obtain ⟨f, hf⟩ : ∃ f, f = b % 4503599627370496 := ⟨_, rfl⟩
  have hb : b < 18446744073709551616 := by cases neg <;> simp at hb0 <;> omega
  have he : (b : Int) / 4503599627370496 = (E : Int) := by omega
  have hE4 : E < 4096 := by omega
  have ha := and2047 E hE4
  have hm : bits .and .u64 (b : Int) 4503599627370495 = (f : Int) := by rw [hf]; exact and52 b hb
  have hfb : f < 4503599627370496 := by omega
  have ho2 := or52 f hfb
  obtain ⟨e, hee⟩ : ∃ e, e = E % 2048 := ⟨_, rfl⟩
  rw [← hee] at ha
  have her : e = r / 4503599627370496 := by cases neg <;> simp at hb0 <;> omega
  have hfr : f = r % 4503599627370496 := by cases neg <;> simp at hb0 <;> omega
  have hsg : (b : Int) / 9223372036854775808 = if neg then 1 else 0 := by cases neg <;> simp at hb0 ⊢ <;> omega
  have he7 : e < 2047 := by omega
  have hme : mantF r = if e = 0 then f else f + 4503599627370496 := by
    unfold mantF; rw [← her]; split <;> omega
  have hpe : powF r + 52 = if e = 0 then -1022 else -1023 + (e : Int) := by
    unfold powF; rw [← her]; split <;> omega
  have hm0 : 0 < mantF r := by rw [hme]; split <;> omega
  have hm1 : mantF r < 9007199254740992 := by rw [hme]; split <;> omega
  have hp0 : -1074 ≤ powF r := by have := hpe; split at this <;> omega
  have hp1 : powF r ≤ 971 := by have := hpe; split at this <;> omega
  have c := hid (fmtX46 neg B (mantF r) (powF r) v _ rfl hm0 hm1 hp0 hp1)
  obtain ⟨R, hR⟩ : ∃ R, R = bv (xH neg (nrm 52 (mantF r) (powF r))) := ⟨_, rfl⟩
  rw [← hR] at c ⊢
  have HB := hid hB
  have HO := hid ho
  clear hR hE hf hb0 hr hr0 hb hE4 hfb hee her hfr hm0 hm1 hp0 hp1 ho hB
  have he2 : ((e : Int) == 2047) = false := beq_eq_false_iff_ne.2 (by omega)
  by_cases e0 : e = 0
  · rw [if_pos e0] at hme hpe
    subst e0
    rw [hme, hpe] at c
    clear hme hpe
    cases neg with
    | true =>
      have hsg : (b : Int) / 9223372036854775808 = 1 := hsg
      go_enter Tryd.func32, Tryd.ntmps32
      go_wp2_with fail
      go_region
      go_wp2_with fail
      refine (c.out w.drew HB.out HO.out.drew).mono ?_
      rintro e w2 ⟨v', n, rfl, hn, hown, hbel⟩
      go_wp2_with fail
      go_ret
      exact ⟨_, n, rfl, hn, hown, ((Below.refl B w).drew).trans hbel⟩
    | false =>
      have hsg : (b : Int) / 9223372036854775808 = 0 := hsg
      go_enter Tryd.func32, Tryd.ntmps32
      go_wp2_with fail
      go_region
      go_wp2_with fail
      refine (c.out w.drew HB.out HO.out.drew).mono ?_
      rintro e w2 ⟨v', n, rfl, hn, hown, hbel⟩
      go_wp2_with fail
      go_ret
      exact ⟨_, n, rfl, hn, hown, ((Below.refl B w).drew).trans hbel⟩
  · rw [if_neg e0] at hme hpe
    rw [hme, hpe] at c
    clear hme hpe
    have he0 : ((e : Int) == 0) = false := beq_eq_false_iff_ne.2 (by omega)
    cases neg with
    | true =>
      have hsg : (b : Int) / 9223372036854775808 = 1 := hsg
      go_enter Tryd.func32, Tryd.ntmps32
      go_wp2_with fail
      go_region
      go_wp2_with fail
      refine (c.out w.drew HB.out HO.out.drew).mono ?_
      rintro e w2 ⟨v', n, rfl, hn, hown, hbel⟩
      go_wp2_with fail
      go_ret
      exact ⟨_, n, rfl, hn, hown, ((Below.refl B w).drew).trans hbel⟩
    | false =>
      have hsg : (b : Int) / 9223372036854775808 = 0 := hsg
      go_enter Tryd.func32, Tryd.ntmps32
      go_wp2_with fail
      go_region
      go_wp2_with fail
      refine (c.out w.drew HB.out HO.out.drew).mono ?_
      rintro e w2 ⟨v', n, rfl, hn, hown, hbel⟩
      go_wp2_with fail
      go_ret
      exact ⟨_, n, rfl, hn, hown, ((Below.refl B w).drew).trans hbel⟩
theorem conv56 (B : Nat) (v : Value) (n : Nat) (l : List UInt8) (w : World) (h0 : 0 < l.length) (hn : n = l.length) (ho : w.ownsRow B 5 1 v n (bv l)) : ∃ g c, v = .slice (some ⟨g, 0, none⟩) n c ∧ (convert 56 9 v).run Tryd.prog w = .ok (.string ⟨l.toArray⟩) w := by
  obtain ⟨g, c, hv, -⟩ := own_shape ho (by omega)
  refine ⟨g, c, hv, ?_⟩
  rw [hv, hn]
  refine run_convert_bytes_back (P := Tryd.prog) w 56 9 5 ⟨g, 0, none⟩ c l Tryd.underlying56 Tryd.underlying5 Tryd.underlying9 (fun j hj => ?_)
  rw [hv] at ho
  rw [show (⟨g, 0, none⟩ : Addr).add j = ⟨g, j, none⟩ by unfold Addr.add; split <;> simp_all, ho.cellAt j (by omega)]
  simp [bv, List.getElem?_eq_getElem hj]
theorem xH_pos (neg : Bool) (N : Nat × Int) : 0 < (xH neg N).length := by
  unfold xH eT
  rw [List.length_append, List.length_cons]
  omega
set_option maxRecDepth 100000 in
set_option maxHeartbeats 4000000 in
theorem format21 (neg : Bool) (b r : Nat) (hb0 : b = r + (if neg then 9223372036854775808 else 0)) (hr : r < 9218868437227405312) (hr0 : r ≠ 0) (w : World) :
    Calls Tryd.prog 21 #[.float .f64 b, .int .u8 120, .int .i64 (-1), .int .i64 64] w fun e w' => e = .returned (.string ⟨(xH neg (nrm 52 (mantF r) (powF r))).toArray⟩) ∧ Below w.heap.size w w' := by
  obtain ⟨i, hi, hz0, hz1, hz2⟩ := info_parts (show (Tryd.prog.info? 5).map (fun i => (i.zero, i.size, i.bytes)) = some (some (.int .u8 0), 1, 1) by kernel_rfl)
  obtain ⟨l, hl⟩ : ∃ l, l = xH neg (nrm 52 (mantF r) (powF r)) := ⟨_, rfl⟩
  have c := hid (ftoa32 neg w.heap.size b r hb0 hr hr0)
  have hl0 := hid (show 0 < l.length by rw [hl]; exact xH_pos _ _)
  rw [← hl] at c ⊢
  clear hl hb0 hr hr0
  go_enter Tryd.func21, Tryd.ntmps21
  go_wp2_with (at_make; refine wpList_make_own _ rfl _ _ 56 rfl w.heap.size 5 i (.int .u8 0) 1 Tryd.underlying56 hi hz0 hz1 .i64 .i64 _ 24 rfl rfl (by first | rfl | omega) (by rw [hz2]; omega) (by unfold maxLen; omega) (Nat.le_refl _) ?_; intro w0 hown0 hgrow0)
  have hB0 := hid ((Below.refl w.heap.size w).grown hgrow0 (Nat.le_refl _) (fun k hk => nomatch hk))
  refine (c.out _ w0 hB0.out.size hown0).mono ?_
  rintro e w2 ⟨v', n, rfl, hn, hown, hbel⟩
  have hn1 : n = l.length := by have := hown.1; rw [bv_len] at this; omega
  obtain ⟨g, c', hv, hcv⟩ := conv56 w.heap.size v' n l w2 hl0.out hn1 hown
  subst hv
  have HB := hid (hB0.out.trans hbel)
  clear hown hbel hn1 hl0 c hown0 hgrow0
  go_wp2_with fail
  go_ret
  exact ⟨rfl, HB.out⟩
set_option maxHeartbeats 1000000 in
theorem format9 (neg : Bool) (b r : Nat) (hb0 : b = r + (if neg then 9223372036854775808 else 0)) (hr : r < 9218868437227405312) (hr0 : r ≠ 0) (w : World) :
    Calls Tryd.prog 9 #[.float .f64 b, .int .u8 120, .int .i64 (-1), .int .i64 64] w fun e w' => e = .returned (.string ⟨(xH neg (nrm 52 (mantF r) (powF r))).toArray⟩) ∧ Below w.heap.size w w' := by
  have c := hid (format21 neg b r hb0 hr hr0 w)
  generalize xH neg (nrm 52 (mantF r) (powF r)) = l at c ⊢
  clear hb0 hr hr0
  go_enter Tryd.func9, Tryd.ntmps9
  go_wp2_with fail
  refine c.out.mono ?_
  rintro e w2 ⟨rfl, hb⟩
  have HB := hid hb
  clear hb
  go_wp2_with fail
  go_ret
  exact ⟨rfl, HB.out⟩

end Go.Proofs.YtjkgffehafaolaaDoor
