/- Walks: the document's Exact, whole. No condition. -/
import Derived.Test.YtjkgffehafaolaaDoorExC
import Derived.Outline
import Derived.Deep.RegionHeld3
namespace Go.Proofs.YtjkgffehafaolaaDoor
open Go.RowKit
set_option linter.unusedVariables false
set_option linter.unusedSimpArgs false

theorem dvd_step {r k : Nat} (hr : r < 4503599627370496) (h : 4503599627370496 ∣ r * 16 ^ (k + 1)) : 4503599627370496 ∣ (r % 281474976710656 * 16) * 16 ^ k := by
  have e : r * 16 ^ (k + 1) = (r % 281474976710656 * 16) * 16 ^ k + 4503599627370496 * (r / 281474976710656 * 16 ^ k) := by
    have h1 : r = r % 281474976710656 + 281474976710656 * (r / 281474976710656) := (Nat.mod_add_div r _).symm
    rw [Nat.pow_succ]
    generalize r / 281474976710656 = q at *
    generalize r % 281474976710656 = t at *
    subst h1
    generalize 16 ^ k = z
    rw [show (4503599627370496 : Nat) = 281474976710656 * 16 from rfl]
    simp only [Nat.add_mul, Nat.mul_add, Nat.mul_comm, Nat.mul_left_comm, Nat.mul_assoc]
  rw [e] at h
  exact (Nat.dvd_add_left ⟨_, rfl⟩).1 h
theorem dvd_end {r : Nat} (hr : r < 4503599627370496) (h : 4503599627370496 ∣ r * 16 ^ 0) : r = 0 := by
  rw [Nat.pow_zero, Nat.mul_one] at h
  exact Nat.eq_zero_of_dvd_of_lt h hr
theorem ext16 : ∀ (d : Nat), d < 16 → (⟨#[48, 49, 50, 51, 52, 53, 54, 55, 56, 57, 97, 98, 99, 100, 101, 102]⟩ : ByteArray).extract d (d + 1) = ⟨#[hdB d]⟩
  | 0, _ => by apply ByteArray.ext; rfl
  | 1, _ => by apply ByteArray.ext; rfl
  | 2, _ => by apply ByteArray.ext; rfl
  | 3, _ => by apply ByteArray.ext; rfl
  | 4, _ => by apply ByteArray.ext; rfl
  | 5, _ => by apply ByteArray.ext; rfl
  | 6, _ => by apply ByteArray.ext; rfl
  | 7, _ => by apply ByteArray.ext; rfl
  | 8, _ => by apply ByteArray.ext; rfl
  | 9, _ => by apply ByteArray.ext; rfl
  | 10, _ => by apply ByteArray.ext; rfl
  | 11, _ => by apply ByteArray.ext; rfl
  | 12, _ => by apply ByteArray.ext; rfl
  | 13, _ => by apply ByteArray.ext; rfl
  | 14, _ => by apply ByteArray.ext; rfl
  | 15, _ => by apply ByteArray.ext; rfl
  | d + 16, h => absurd h (by omega)
theorem dig_facts {x d y : Nat} (hx : x < 4503599627370496) (hd : d = x / 281474976710656) (hy : y = x % 281474976710656) : d < 16 ∧ (x : Int) / 281474976710656 = (d : Int) ∧ IntKind.u64.wrap ((d : Int) + 1) = (d : Int) + 1 ∧ IntKind.u64.wrap ((d : Int) * 281474976710656) = (d : Int) * 281474976710656 ∧ IntKind.u64.wrap ((x : Int) - (d : Int) * 281474976710656) = (y : Int) ∧ IntKind.u64.wrap ((y : Int) * 16) = ((y * 16 : Nat) : Int) ∧ y * 16 < 4503599627370496 := by
  have e1 : (x : Int) = 281474976710656 * (d : Int) + (y : Int) := by subst hd hy; omega
  have e2 : y < 281474976710656 := by subst hy; exact Nat.mod_lt _ (by decide)
  have e3 : d < 16 := by omega
  clear hd hy
  refine ⟨e3, by omega, ?_, ?_, ?_, ?_, by omega⟩ <;> rw [IntKind.wrap_u64] <;> omega
/-- what the document's Exact gives -/
def exL (m : Nat) : List UInt8 := [48, 120, 49] ++ ((if m - 4503599627370496 = 0 then [] else [46]) ++ hxs 13 (m - 4503599627370496))
def exF (b : Int) : ByteArray :=
  if (specF b ⟨#[48, 120, 48, 112, 48]⟩).2 then (specF b ⟨#[48, 120, 48, 112, 48]⟩).1
  else sgF b ⟨(exL (nrm 52 (mantF (b % 9223372036854775808).toNat) (powF (b % 9223372036854775808).toNat)).1 ++ 112 :: Lib.itoa ((nrm 52 (mantF (b % 9223372036854775808).toNat) (powF (b % 9223372036854775808).toNat)).2 + 52)).toArray⟩
set_option maxRecDepth 100000 in
set_option maxHeartbeats 20000000 in
theorem exact6 (b : Int) (h0 : 0 ≤ b) (h1 : b < 18446744073709551616) (w : World) : Calls Tryd.prog 6 #[.int .u64 b] w fun e w' => e = .returned (.string (exF b)) ∧ Below w.heap.size w w' := by
  obtain ⟨R, hR⟩ : ∃ R, R = exF b := ⟨_, rfl⟩
  rw [← hR]
  have HR := hid hR
  have c := hid (whole12 w)
  obtain ⟨r, hr⟩ : ∃ r : Nat, r = (b % 9223372036854775808).toNat := ⟨_, rfl⟩
  have hrb : b % 9223372036854775808 = (r : Int) := by omega
  have HRB := hid hrb
  have hcell : ∀ (W : World) (w' : World), Below (W.alloc (.cells #[.int .i64 52, .int .i64 11, .int .i64 (-1074)] 39)).heap.size (W.alloc (.cells #[.int .i64 52, .int .i64 11, .int .i64 (-1074)] 39)) w' → w'.cell? ⟨W.heap.size, 0, none⟩ = some (.int .i64 52) ∧ w'.cell? ⟨W.heap.size, 1, none⟩ = some (.int .i64 11) ∧ w'.cell? ⟨W.heap.size, 2, none⟩ = some (.int .i64 (-1074)) := fun W w' hb => by
    refine ⟨(hb.cell ?_).trans ?_, (hb.cell ?_).trans ?_, (hb.cell ?_).trans ?_⟩ <;> simp
  have HC := hid hcell
  obtain ⟨S, hS⟩ : ∃ S, S = specF b ⟨#[48, 120, 48, 112, 48]⟩ := ⟨_, rfl⟩
  have HS := hid hS
  clear hR hr hrb hcell hS
  go_enter Tryd.func6, Tryd.ntmps6
  go_wp2_with fail
  refine c.out.mono ?_
  rintro e w1 ⟨rfl, hb1⟩
  have hB1 := hid hb1
  obtain ⟨W, hW⟩ : ∃ W : World, W = w1.alloc (.cells #[.int .i64 52, .int .i64 11, .int .i64 (-1074)] 39) := ⟨_, rfl⟩
  have hBW := hid (show Below w.heap.size w W by rw [hW]; exact hb1.alloc hb1.size _)
  have hX := HC.out w1
  rw [← hW] at hX
  have HX := hid hX
  obtain ⟨x0, x1, x2⟩ := hX W (Below.refl _ _)
  have c2 := hid (special13 b h0 ⟨#[48, 120, 48, 112, 48]⟩ (by decide) W)
  rw [← HS.out] at c2
  clear hb1 c hX HC
  go_wp2_with fail
  rw [← hW]
  clear hW
  obtain ⟨q, hq⟩ : ∃ q, q = w1.heap.size := ⟨_, rfl⟩
  rw [← hq] at HX x0 x1 x2 ⊢
  clear hq
  refine c2.out.mono ?_
  rintro e w2 ⟨rfl, hb2⟩
  have hB2 := hid hb2
  clear c2 hb2 x0 x1 x2
  cases h2 : S.2 with
  | true =>
    have E := hid (show R = S.1 by rw [HR.out]; unfold exF; rw [← HS.out, h2]; rfl)
    go_wp2_with fail
    go_ret
    exact ⟨by rw [E.out]; rfl, hBW.out.trans (hB2.out.mono hBW.out.size)⟩
  | false =>
    have hfin : r < 9218868437227405312 ∧ r ≠ 0 := by
      have h3 := HS.out
      unfold specF at h3
      rw [HRB.out] at h3
      by_cases a1 : (9218868437227405312 : Int) < (r : Int)
      · rw [if_pos a1] at h3; rw [h3] at h2; cases h2
      rw [if_neg a1] at h3
      by_cases a2 : (r : Int) = 9218868437227405312
      · rw [if_pos a2] at h3; rw [h3] at h2; cases h2
      rw [if_neg a2] at h3
      by_cases a3 : (r : Int) = 0
      · rw [if_pos a3] at h3; rw [h3] at h2; cases h2
      omega
    have HF := hid hfin
    obtain ⟨N, hN⟩ : ∃ N, N = nrm 52 (mantF r) (powF r) := ⟨_, rfl⟩
    have HN := hid hN
    have E := hid (show R = sgF b ⟨(exL N.1 ++ 112 :: Lib.itoa (N.2 + 52)).toArray⟩ by rw [HR.out]; unfold exF; rw [← HS.out, h2, HRB.out, hN]; rfl)
    obtain ⟨x0, x1, x2⟩ := HX.out w2 hB2.out
    have hr2 : b % 9223372036854775808 = r := HRB.out
    have hr3 : b.tmod 9223372036854775808 = r := by rw [Int.tmod_eq_emod_of_nonneg h0]; exact HRB.out
    clear hfin hN h2
    go_wp2_with fail
    refine wp_region_held_drew (S := (fun w9 => Below W.heap.size W w9)) (by kernel_rfl) hB2.out.drew (fun hHeld => ?_)
    refine wpAnyH_take (i := 0) (v := ?_) (by simp only [List.getElem?_toArray, List.getElem?_cons_succ, List.getElem?_cons_zero]; rfl) (by kernel_rfl) (by kernel_rfl) (by kernel_rfl) (by intro _ _ _ h; exact h) (Or.inl ⟨by rfl, ?_⟩) (by assumption) ?_
    rotate_left
    · intro w' hSw; obtain ⟨q0, q1, q2⟩ := HX.out w' hSw; go_simp; (try with_reducible rfl)
    try simp only [Act.put, List.setIfInBounds_toArray, List.set_cons_zero, List.set_cons_succ]
    refine wpAnyH_take (i := 1) (v := ?_) (by simp only [List.getElem?_toArray, List.getElem?_cons_succ, List.getElem?_cons_zero]; rfl) (by kernel_rfl) (by kernel_rfl) (by kernel_rfl) (by intro _ _ _ h; exact h) (Or.inl ⟨by rfl, ?_⟩) (by assumption) ?_
    rotate_left
    · intro w' hSw; go_simp; (try with_reducible rfl)
    try simp only [Act.put, List.setIfInBounds_toArray, List.set_cons_zero, List.set_cons_succ]
    refine wpAnyH_take (i := 2) (v := ?_) (by simp only [List.getElem?_toArray, List.getElem?_cons_succ, List.getElem?_cons_zero]; rfl) (by kernel_rfl) (by kernel_rfl) (by kernel_rfl) (by intro _ _ _ h; exact h) (Or.inl ⟨by rfl, ?_⟩) (by assumption) ?_
    rotate_left
    · intro w' hSw; obtain ⟨q0, q1, q2⟩ := HX.out w' hSw; go_simp; (try with_reducible rfl)
    try simp only [Act.put, List.setIfInBounds_toArray, List.set_cons_zero, List.set_cons_succ]
    refine wpAnyH_ready (rs := [3]) (by kernel_rfl) (by simp) ?_
    refine AllReadyH.cons (by simp only [List.getElem?_toArray, List.getElem?_cons_succ, List.getElem?_cons_zero]; rfl) (fun K hK => ?_) AllReadyH.nil
    go_simp
    go_at_call 15
    refine (sign15 _).mono ?_
    rintro e w2 ⟨rfl, hb3⟩
    have hk := hHeld.trans (hb3.mono hHeld.size)
    clear hHeld
    go_wp2_with fail
    refine hK.out _ _ hk (fun hHeld => ?_)
    clear hK K hk
    try simp only [Act.put, List.setIfInBounds_toArray, List.set_cons_zero, List.set_cons_succ]
    refine wpAnyH_take (i := 4) (v := ?_) (by simp only [List.getElem?_toArray, List.getElem?_cons_succ, List.getElem?_cons_zero]; rfl) (by kernel_rfl) (by kernel_rfl) (by kernel_rfl) (by intro _ _ _ h; exact h) (Or.inl ⟨by rfl, ?_⟩) (by assumption) ?_
    rotate_left
    · intro w' hSw; go_simp; (try with_reducible rfl)
    try simp only [Act.put, List.setIfInBounds_toArray, List.set_cons_zero, List.set_cons_succ]
    have hlt : r < 9218868437227405312 := HF.out.1
    have HLT := hid hlt
    clear hlt hr2 hr3
    refine wpAnyH_ready (rs := [5]) (by kernel_rfl) (by simp) ?_
    refine AllReadyH.cons (by simp only [List.getElem?_toArray, List.getElem?_cons_succ, List.getElem?_cons_zero]; rfl) (fun K hK => ?_) AllReadyH.nil
    go_simp
    go_at_call 14
    refine (parts14 r HLT.out _).mono ?_
    rintro e w2 ⟨rfl, hb4⟩
    have hk := hHeld.trans (hb4.mono hHeld.size)
    clear hHeld
    go_wp2_with fail
    refine hK.out _ _ hk (fun hHeld => ?_)
    clear hK K hk
    try simp only [Act.put, List.setIfInBounds_toArray, List.set_cons_zero, List.set_cons_succ]
    refine wpAnyH_take (i := 6) (v := ?_) (by simp only [List.getElem?_toArray, List.getElem?_cons_succ, List.getElem?_cons_zero]; rfl) (by kernel_rfl) (by kernel_rfl) (by kernel_rfl) (by intro _ _ _ h; exact h) (Or.inl ⟨by rfl, ?_⟩) (by assumption) ?_
    rotate_left
    · intro w' hSw; go_simp; (try with_reducible rfl)
    try simp only [Act.put, List.setIfInBounds_toArray, List.set_cons_zero, List.set_cons_succ]
    refine wpAnyH_take (i := 7) (v := ?_) (by simp only [List.getElem?_toArray, List.getElem?_cons_succ, List.getElem?_cons_zero]; rfl) (by kernel_rfl) (by kernel_rfl) (by kernel_rfl) (by intro _ _ _ h; exact h) (Or.inl ⟨by rfl, ?_⟩) (by assumption) ?_
    rotate_left
    · intro w' hSw; go_simp; (try with_reducible rfl)
    try simp only [Act.put, List.setIfInBounds_toArray, List.set_cons_zero, List.set_cons_succ]
    refine wpAnyH_take (i := 8) (v := ?_) (by simp only [List.getElem?_toArray, List.getElem?_cons_succ, List.getElem?_cons_zero]; rfl) (by kernel_rfl) (by kernel_rfl) (by kernel_rfl) (by intro _ _ _ h; exact h) (Or.inl ⟨by rfl, ?_⟩) (by assumption) ?_
    rotate_left
    · intro w' hSw; go_simp; (try with_reducible rfl)
    try simp only [Act.put, List.setIfInBounds_toArray, List.set_cons_zero, List.set_cons_succ]
    refine wpAnyH_take (i := 9) (v := ?_) (by simp only [List.getElem?_toArray, List.getElem?_cons_succ, List.getElem?_cons_zero]; rfl) (by kernel_rfl) (by kernel_rfl) (by kernel_rfl) (by intro _ _ _ h; exact h) (Or.inl ⟨by rfl, ?_⟩) (by assumption) ?_
    rotate_left
    · intro w' hSw; go_simp; (try with_reducible rfl)
    try simp only [Act.put, List.setIfInBounds_toArray, List.set_cons_zero, List.set_cons_succ]
    refine wpAnyH_take (i := 10) (v := ?_) (by simp only [List.getElem?_toArray, List.getElem?_cons_succ, List.getElem?_cons_zero]; rfl) (by kernel_rfl) (by kernel_rfl) (by kernel_rfl) (by intro _ _ _ h; exact h) (Or.inl ⟨by rfl, ?_⟩) (by assumption) ?_
    rotate_left
    · intro w' hSw; go_simp; (try with_reducible rfl)
    try simp only [Act.put, List.setIfInBounds_toArray, List.set_cons_zero, List.set_cons_succ]
    refine wpAnyH_done (by kernel_rfl) ?_ _
    have hB5 := hid hHeld
    clear hHeld x0 x1 x2
    have hmp := hid (show 0 < mantF r ∧ mantF r < 9007199254740992 ∧ (-1074 : Int) ≤ powF r ∧ powF r ≤ 971 from by
      have f := HF.out
      unfold mantF powF
      split
      · rename_i z; refine ⟨by omega, by omega, by omega, by omega⟩
      · rename_i z; refine ⟨by omega, by omega, by omega, by omega⟩)
    have hge := hid (show 4503599627370496 ≤ mantF r * 2 ^ 52 from by have := hmp.out.1; omega)
    obtain ⟨m0, hm0⟩ : ∃ m, m = mantF r := ⟨_, rfl⟩
    obtain ⟨p0, hp0⟩ : ∃ p, p = powF r := ⟨_, rfl⟩
    rw [← hm0, ← hp0] at HN
    rw [← hm0, ← hp0] at hmp
    rw [← hm0] at hge
    rw [← hm0, ← hp0]
    clear hm0 hp0
    go_wp2_with fail
    go_loopw [6, 7] (fun a p wr => ∃ (k m : Nat) (q : Int), a = .int .u64 m ∧ p = .int .i64 q ∧ N = nrm k m q ∧ 4503599627370496 ≤ m * 2 ^ k ∧ 0 < m ∧ m < 9007199254740992 ∧ k ≤ 52 ∧ -1126 + (k : Int) ≤ q ∧ q ≤ 971 ∧ Below W.heap.size W wr) (fun a _ _ => 9007199254740992 - (intOf a).toNat)
    case atStart => exact ⟨52, m0, p0, rfl, rfl, HN.out, hge.out, hmp.out.1, hmp.out.2.1, by omega, by have := hmp.out.2.2.1; omega, hmp.out.2.2.2, hB5.out⟩
    case round =>
      clear hB5 hmp hge HN
      obtain ⟨k, m, q, rfl, rfl, hN, hge, hm0, hm1, hk, hq0, hq1, hb⟩ := hrel
      have HN := hid hN
      have HG := hid hge
      have HB := hid hb
      clear hN hge hb
      by_cases hlt : m < 4503599627370496
      · have hw1 : IntKind.u64.wrap ((m : Int) * 2) = ((m * 2 : Nat) : Int) := by rw [IntKind.wrap_u64]; omega
        have hli : (m : Int) < 4503599627370496 := by omega
        have HL := hid hlt
        have H0 := hid hm0
        have H1 := hid hm1
        have HK := hid hk
        have HQ := hid (And.intro hq0 hq1)
        have hqa : -1126 ≤ q := by omega
        clear hlt hm0 hm1 hk hq0
        go_wp2_with fail
        go_roundw
        case rel =>
          obtain ⟨j, rfl⟩ : ∃ j, k = j + 1 := by
            cases k with
            | zero => have := HG.out; simp at this; omega
            | succ j => exact ⟨j, rfl⟩
          have hlt := HL.out
          have hm0 := H0.out
          have hm1 := H1.out
          have hk := HK.out
          have hq0 := HQ.out.1
          refine ⟨j, m * 2, q - 1, by go_num, by go_num, by rw [HN.out, nrm_lt hlt], ?_, by omega, by omega, by omega, by omega, by omega, HB.out⟩
          have := HG.out
          rw [Nat.pow_succ] at this
          rw [Nat.mul_assoc, Nat.mul_comm 2]
          exact this
        case measure =>
          have hlt := HL.out
          have hm0 := H0.out
          simp only [intOf]
          omega
      · have hN : N = (m, q) := by rw [HN.out, nrm_ge hlt]
        subst hN
        clear HN HG hk
        have hk0 := hid hq0
        obtain ⟨t, hmt⟩ : ∃ t, m - 4503599627370496 = t := ⟨_, rfl⟩
        have hw1 : IntKind.u64.wrap ((m : Int) - 4503599627370496) = (t : Int) := by rw [IntKind.wrap_u64]; omega
        have ht : t < 4503599627370496 := by omega
        have hex : exL m = [48, 120, 49] ++ ((if t = 0 then [] else [46]) ++ hxs 13 t) := by unfold exL; rw [hmt]
        have hli : ¬ (m : Int) < 4503599627370496 := by omega
        clear hmt hm0 hm1 hlt
        have hqa : -1126 ≤ q := by omega
        clear hq0
        obtain ⟨EX, hEX⟩ : ∃ l, l = exL m := ⟨_, rfl⟩
        have HE := hid (hEX.trans hex)
        have E2 := hid (show R = sgF b ⟨(EX ++ 112 :: Lib.itoa (q + 52)).toArray⟩ by rw [hEX]; exact E.out)
        clear hex hEX E
        have hi := hid (itoa_len (n := q + 52) (by omega) (by omega))
        by_cases ht0 : t = 0
        · subst ht0
          go_wp2_with fail
          go_loopw [4, 8, 9] (fun a u _ wr => ∃ (k x : Nat) (s : ByteArray), a = .string s ∧ u = .int .u64 x ∧ s.data.toList ++ hxs k x = EX ∧ x < 4503599627370496 ∧ 4503599627370496 ∣ x * 16 ^ k ∧ s.size + k ≤ 17 ∧ Below W.heap.size W wr) (fun a _ _ _ => 17 - (match a with | .string s => s.size | _ => 0))
          case atStart => exact ⟨13, 0, _, rfl, rfl, by rw [HE.out]; simp [hxs_nil], by omega, ⟨0, by rw [Nat.mul_comm]⟩, by decide, HB.out⟩
          case round =>
            clear HE HB
            obtain ⟨k, x, s, rfl, rfl, hs, hx, hd, hz, hb⟩ := hrel
            have HE := hid hs
            have HB := hid hb
            have HD := hid hd
            clear hs hb hd
            by_cases hx0 : x = 0
            · subst hx0
              have hse := hid (show s.data.toList = EX by have := HE.out; rwa [hxs_nil, List.append_nil] at this)
              obtain ⟨x0, x1, x2⟩ := HX.out _ HB.out
              clear HE HD
              obtain ⟨T, hT⟩ : ∃ T : ByteArray, T = ⟨(Lib.itoa (q + 52)).toArray⟩ := ⟨_, rfl⟩
              have hTs : T.size ≤ 5 := by rw [hT]; simpa [ByteArray.size] using hi.out
              have hss : s.size ≤ 17 := by omega
              have hw52 : IntKind.i64.wrap (q + 52) = q + 52 := by rw [IntKind.wrap_i64]; omega
              have c17 := hid (fun w => number17 (q + 52) (by omega) (by omega) w)
              rw [← hT] at c17
              have c16 := hid (fun w => signed16 b (s ++ ⟨#[112]⟩ ++ T) (by rw [ByteArray.size_append, ByteArray.size_append]; simp only [ByteArray.size, List.size_toArray, List.length_cons, List.length_nil] at hss hTs ⊢; omega) w)
              rw [show sgF b (s ++ ⟨#[112]⟩ ++ T) = R by rw [E2.out, ← hse.out, hT]; exact congrArg (sgF b) (by apply ByteArray.ext; simp)] at c16
              clear hT hz x0 x1 x2 hse E2 hi HR HRB HS HF HLT
              go_wp2_with fail
              refine wp_region_held_drew (S := (fun w9 => Below W.heap.size W w9)) (by kernel_rfl) HB.out.drew (fun hHeld => ?_)
              refine wpAnyH_take (i := 0) (v := ?_) (by simp only [List.getElem?_toArray, List.getElem?_cons_succ, List.getElem?_cons_zero]; rfl) (by kernel_rfl) (by kernel_rfl) (by kernel_rfl) (by intro _ _ _ h; exact h) (Or.inl ⟨by rfl, ?_⟩) (by assumption) ?_
              rotate_left
              · intro w' hSw; obtain ⟨q0, q1, q2⟩ := HX.out w' hSw; go_simp; (try with_reducible rfl)
              try simp only [Act.put, List.setIfInBounds_toArray, List.set_cons_zero, List.set_cons_succ]
              refine wpAnyH_take (i := 1) (v := ?_) (by simp only [List.getElem?_toArray, List.getElem?_cons_succ, List.getElem?_cons_zero]; rfl) (by kernel_rfl) (by kernel_rfl) (by kernel_rfl) (by intro _ _ _ h; exact h) (Or.inl ⟨by rfl, ?_⟩) (by assumption) ?_
              rotate_left
              · intro w' hSw; go_simp; (try with_reducible rfl)
              try simp only [Act.put, List.setIfInBounds_toArray, List.set_cons_zero, List.set_cons_succ]
              refine wpAnyH_take (i := 2) (v := ?_) (by simp only [List.getElem?_toArray, List.getElem?_cons_succ, List.getElem?_cons_zero]; rfl) (by kernel_rfl) (by kernel_rfl) (by kernel_rfl) (by intro _ _ _ h; exact h) (Or.inl ⟨by rfl, ?_⟩) (by assumption) ?_
              rotate_left
              · intro w' hSw; go_simp; (try with_reducible rfl)
              try simp only [Act.put, List.setIfInBounds_toArray, List.set_cons_zero, List.set_cons_succ]
              refine wpAnyH_take (i := 3) (v := ?_) (by simp only [List.getElem?_toArray, List.getElem?_cons_succ, List.getElem?_cons_zero]; rfl) (by kernel_rfl) (by kernel_rfl) (by kernel_rfl) (by intro _ _ _ h; exact h) (Or.inl ⟨by rfl, ?_⟩) (by assumption) ?_
              rotate_left
              · intro w' hSw; go_simp; rw [if_neg (by first | omega | (simp only [ByteArray.size_append]; omega) | (simp [ByteArray.size_append]; omega))]
              try simp only [Act.put, List.setIfInBounds_toArray, List.set_cons_zero, List.set_cons_succ]
              refine wpAnyH_take (i := 4) (v := ?_) (by simp only [List.getElem?_toArray, List.getElem?_cons_succ, List.getElem?_cons_zero]; rfl) (by kernel_rfl) (by kernel_rfl) (by kernel_rfl) (by intro _ _ _ h; exact h) (Or.inl ⟨by rfl, ?_⟩) (by assumption) ?_
              rotate_left
              · intro w' hSw; go_simp; (try with_reducible rfl)
              try simp only [Act.put, List.setIfInBounds_toArray, List.set_cons_zero, List.set_cons_succ]
              refine wpAnyH_take (i := 5) (v := ?_) (by simp only [List.getElem?_toArray, List.getElem?_cons_succ, List.getElem?_cons_zero]; rfl) (by kernel_rfl) (by kernel_rfl) (by kernel_rfl) (by intro _ _ _ h; exact h) (Or.inl ⟨by rfl, ?_⟩) (by assumption) ?_
              rotate_left
              · intro w' hSw; go_simp; (try with_reducible rfl)
              try simp only [Act.put, List.setIfInBounds_toArray, List.set_cons_zero, List.set_cons_succ]
              refine wpAnyH_ready (rs := [6]) (by kernel_rfl) (by simp) ?_
              refine AllReadyH.cons (by simp only [List.getElem?_toArray, List.getElem?_cons_succ, List.getElem?_cons_zero]; rfl) (fun K hK => ?_) AllReadyH.nil
              go_simp
              go_at_call 17
              refine (c17.out _).mono ?_
              rintro e w2 ⟨rfl, hb9⟩
              have hk := hHeld.trans (hb9.mono hHeld.size)
              clear hHeld
              go_wp2_with fail
              refine hK.out _ _ hk (fun hHeld => ?_)
              clear hK K hk
              try simp only [Act.put, List.setIfInBounds_toArray, List.set_cons_zero, List.set_cons_succ]
              refine wpAnyH_take (i := 7) (v := ?_) (by simp only [List.getElem?_toArray, List.getElem?_cons_succ, List.getElem?_cons_zero]; rfl) (by kernel_rfl) (by kernel_rfl) (by kernel_rfl) (by intro _ _ _ h; exact h) (Or.inl ⟨by rfl, ?_⟩) (by assumption) ?_
              rotate_left
              · intro w' hSw; go_simp; rw [if_neg (by first | omega | (simp only [ByteArray.size_append]; omega) | (simp [ByteArray.size_append]; omega))]
              try simp only [Act.put, List.setIfInBounds_toArray, List.set_cons_zero, List.set_cons_succ]
              refine wpAnyH_ready (rs := [8]) (by kernel_rfl) (by simp) ?_
              refine AllReadyH.cons (by simp only [List.getElem?_toArray, List.getElem?_cons_succ, List.getElem?_cons_zero]; rfl) (fun K hK => ?_) AllReadyH.nil
              go_simp
              go_at_call 16
              refine (c16.out _).mono ?_
              rintro e w2 ⟨rfl, hb9⟩
              have hk := hHeld.trans (hb9.mono hHeld.size)
              clear hHeld
              go_wp2_with fail
              refine hK.out _ _ hk (fun hHeld => ?_)
              clear hK K hk
              try simp only [Act.put, List.setIfInBounds_toArray, List.set_cons_zero, List.set_cons_succ]
              refine wpAnyH_take (i := 9) (v := ?_) (by simp only [List.getElem?_toArray, List.getElem?_cons_succ, List.getElem?_cons_zero]; rfl) (by kernel_rfl) (by kernel_rfl) (by kernel_rfl) (by intro _ _ _ h; exact h) (Or.inl ⟨by rfl, ?_⟩) (by assumption) ?_
              rotate_left
              · intro w' hSw; go_simp; (try with_reducible rfl)
              try simp only [Act.put, List.setIfInBounds_toArray, List.set_cons_zero, List.set_cons_succ]
              refine wpAnyH_done (by kernel_rfl) ?_ _
              go_wp2_with fail
              go_ret
              exact ⟨rfl, hBW.out.trans (hHeld.mono hBW.out.size)⟩
            · obtain ⟨j, rfl⟩ : ∃ j, k = j + 1 := by
                cases k with
                | zero => exact absurd (dvd_end hx HD.out) hx0
                | succ j => exact ⟨j, rfl⟩
              obtain ⟨d, hd⟩ : ∃ d, d = x / 281474976710656 := ⟨_, rfl⟩
              obtain ⟨y, hy⟩ : ∃ y, y = x % 281474976710656 := ⟨_, rfl⟩
              have hD := hid hd
              have hY := hid hy
              obtain ⟨hd16, hdv, hw1, hw2, hw3, hw4, hy16⟩ := dig_facts hx hd hy
              clear hd hy
              go_wp2_with fail
              go_roundw
              case rel =>
                refine ⟨j, y * 16, _, rfl, by go_num, ?_, hy16, by rw [hY.out]; exact dvd_step hx HD.out, ?_, HB.out⟩
                · rw [ext16 d hd16, ← HE.out, hxs_pos hx0, ← hD.out, ← hY.out]
                  simp [ByteArray.data_append]
                · rw [ext16 d hd16]
                  have : (s ++ (⟨#[hdB d]⟩ : ByteArray)).size = s.size + 1 := by rw [ByteArray.size_append]; rfl
                  omega
              case measure =>
                rw [ext16 d hd16]
                have : (s ++ (⟨#[hdB d]⟩ : ByteArray)).size = s.size + 1 := by rw [ByteArray.size_append]; rfl
                simp only []
                omega
        · have htp : 0 < t := by omega
          go_wp2_with fail
          go_loopw [4, 8, 9] (fun a u _ wr => ∃ (k x : Nat) (s : ByteArray), a = .string s ∧ u = .int .u64 x ∧ s.data.toList ++ hxs k x = EX ∧ x < 4503599627370496 ∧ 4503599627370496 ∣ x * 16 ^ k ∧ s.size + k ≤ 17 ∧ Below W.heap.size W wr) (fun a _ _ _ => 17 - (match a with | .string s => s.size | _ => 0))
          case atStart => exact ⟨13, t, _, rfl, rfl, by rw [HE.out]; simp [ht0], by omega, ⟨t, by rw [Nat.mul_comm]⟩, by decide, HB.out⟩
          case round =>
            clear HE HB
            obtain ⟨k, x, s, rfl, rfl, hs, hx, hd, hz, hb⟩ := hrel
            have HE := hid hs
            have HB := hid hb
            have HD := hid hd
            clear hs hb hd
            by_cases hx0 : x = 0
            · subst hx0
              have hse := hid (show s.data.toList = EX by have := HE.out; rwa [hxs_nil, List.append_nil] at this)
              obtain ⟨x0, x1, x2⟩ := HX.out _ HB.out
              clear HE HD
              obtain ⟨T, hT⟩ : ∃ T : ByteArray, T = ⟨(Lib.itoa (q + 52)).toArray⟩ := ⟨_, rfl⟩
              have hTs : T.size ≤ 5 := by rw [hT]; simpa [ByteArray.size] using hi.out
              have hss : s.size ≤ 17 := by omega
              have hw52 : IntKind.i64.wrap (q + 52) = q + 52 := by rw [IntKind.wrap_i64]; omega
              have c17 := hid (fun w => number17 (q + 52) (by omega) (by omega) w)
              rw [← hT] at c17
              have c16 := hid (fun w => signed16 b (s ++ ⟨#[112]⟩ ++ T) (by rw [ByteArray.size_append, ByteArray.size_append]; simp only [ByteArray.size, List.size_toArray, List.length_cons, List.length_nil] at hss hTs ⊢; omega) w)
              rw [show sgF b (s ++ ⟨#[112]⟩ ++ T) = R by rw [E2.out, ← hse.out, hT]; exact congrArg (sgF b) (by apply ByteArray.ext; simp)] at c16
              clear hT hz x0 x1 x2 hse E2 hi HR HRB HS HF HLT
              go_wp2_with fail
              refine wp_region_held_drew (S := (fun w9 => Below W.heap.size W w9)) (by kernel_rfl) HB.out.drew (fun hHeld => ?_)
              refine wpAnyH_take (i := 0) (v := ?_) (by simp only [List.getElem?_toArray, List.getElem?_cons_succ, List.getElem?_cons_zero]; rfl) (by kernel_rfl) (by kernel_rfl) (by kernel_rfl) (by intro _ _ _ h; exact h) (Or.inl ⟨by rfl, ?_⟩) (by assumption) ?_
              rotate_left
              · intro w' hSw; obtain ⟨q0, q1, q2⟩ := HX.out w' hSw; go_simp; (try with_reducible rfl)
              try simp only [Act.put, List.setIfInBounds_toArray, List.set_cons_zero, List.set_cons_succ]
              refine wpAnyH_take (i := 1) (v := ?_) (by simp only [List.getElem?_toArray, List.getElem?_cons_succ, List.getElem?_cons_zero]; rfl) (by kernel_rfl) (by kernel_rfl) (by kernel_rfl) (by intro _ _ _ h; exact h) (Or.inl ⟨by rfl, ?_⟩) (by assumption) ?_
              rotate_left
              · intro w' hSw; go_simp; (try with_reducible rfl)
              try simp only [Act.put, List.setIfInBounds_toArray, List.set_cons_zero, List.set_cons_succ]
              refine wpAnyH_take (i := 2) (v := ?_) (by simp only [List.getElem?_toArray, List.getElem?_cons_succ, List.getElem?_cons_zero]; rfl) (by kernel_rfl) (by kernel_rfl) (by kernel_rfl) (by intro _ _ _ h; exact h) (Or.inl ⟨by rfl, ?_⟩) (by assumption) ?_
              rotate_left
              · intro w' hSw; go_simp; (try with_reducible rfl)
              try simp only [Act.put, List.setIfInBounds_toArray, List.set_cons_zero, List.set_cons_succ]
              refine wpAnyH_take (i := 3) (v := ?_) (by simp only [List.getElem?_toArray, List.getElem?_cons_succ, List.getElem?_cons_zero]; rfl) (by kernel_rfl) (by kernel_rfl) (by kernel_rfl) (by intro _ _ _ h; exact h) (Or.inl ⟨by rfl, ?_⟩) (by assumption) ?_
              rotate_left
              · intro w' hSw; go_simp; rw [if_neg (by first | omega | (simp only [ByteArray.size_append]; omega) | (simp [ByteArray.size_append]; omega))]
              try simp only [Act.put, List.setIfInBounds_toArray, List.set_cons_zero, List.set_cons_succ]
              refine wpAnyH_take (i := 4) (v := ?_) (by simp only [List.getElem?_toArray, List.getElem?_cons_succ, List.getElem?_cons_zero]; rfl) (by kernel_rfl) (by kernel_rfl) (by kernel_rfl) (by intro _ _ _ h; exact h) (Or.inl ⟨by rfl, ?_⟩) (by assumption) ?_
              rotate_left
              · intro w' hSw; go_simp; (try with_reducible rfl)
              try simp only [Act.put, List.setIfInBounds_toArray, List.set_cons_zero, List.set_cons_succ]
              refine wpAnyH_take (i := 5) (v := ?_) (by simp only [List.getElem?_toArray, List.getElem?_cons_succ, List.getElem?_cons_zero]; rfl) (by kernel_rfl) (by kernel_rfl) (by kernel_rfl) (by intro _ _ _ h; exact h) (Or.inl ⟨by rfl, ?_⟩) (by assumption) ?_
              rotate_left
              · intro w' hSw; go_simp; (try with_reducible rfl)
              try simp only [Act.put, List.setIfInBounds_toArray, List.set_cons_zero, List.set_cons_succ]
              refine wpAnyH_ready (rs := [6]) (by kernel_rfl) (by simp) ?_
              refine AllReadyH.cons (by simp only [List.getElem?_toArray, List.getElem?_cons_succ, List.getElem?_cons_zero]; rfl) (fun K hK => ?_) AllReadyH.nil
              go_simp
              go_at_call 17
              refine (c17.out _).mono ?_
              rintro e w2 ⟨rfl, hb9⟩
              have hk := hHeld.trans (hb9.mono hHeld.size)
              clear hHeld
              go_wp2_with fail
              refine hK.out _ _ hk (fun hHeld => ?_)
              clear hK K hk
              try simp only [Act.put, List.setIfInBounds_toArray, List.set_cons_zero, List.set_cons_succ]
              refine wpAnyH_take (i := 7) (v := ?_) (by simp only [List.getElem?_toArray, List.getElem?_cons_succ, List.getElem?_cons_zero]; rfl) (by kernel_rfl) (by kernel_rfl) (by kernel_rfl) (by intro _ _ _ h; exact h) (Or.inl ⟨by rfl, ?_⟩) (by assumption) ?_
              rotate_left
              · intro w' hSw; go_simp; rw [if_neg (by first | omega | (simp only [ByteArray.size_append]; omega) | (simp [ByteArray.size_append]; omega))]
              try simp only [Act.put, List.setIfInBounds_toArray, List.set_cons_zero, List.set_cons_succ]
              refine wpAnyH_ready (rs := [8]) (by kernel_rfl) (by simp) ?_
              refine AllReadyH.cons (by simp only [List.getElem?_toArray, List.getElem?_cons_succ, List.getElem?_cons_zero]; rfl) (fun K hK => ?_) AllReadyH.nil
              go_simp
              go_at_call 16
              refine (c16.out _).mono ?_
              rintro e w2 ⟨rfl, hb9⟩
              have hk := hHeld.trans (hb9.mono hHeld.size)
              clear hHeld
              go_wp2_with fail
              refine hK.out _ _ hk (fun hHeld => ?_)
              clear hK K hk
              try simp only [Act.put, List.setIfInBounds_toArray, List.set_cons_zero, List.set_cons_succ]
              refine wpAnyH_take (i := 9) (v := ?_) (by simp only [List.getElem?_toArray, List.getElem?_cons_succ, List.getElem?_cons_zero]; rfl) (by kernel_rfl) (by kernel_rfl) (by kernel_rfl) (by intro _ _ _ h; exact h) (Or.inl ⟨by rfl, ?_⟩) (by assumption) ?_
              rotate_left
              · intro w' hSw; go_simp; (try with_reducible rfl)
              try simp only [Act.put, List.setIfInBounds_toArray, List.set_cons_zero, List.set_cons_succ]
              refine wpAnyH_done (by kernel_rfl) ?_ _
              go_wp2_with fail
              go_ret
              exact ⟨rfl, hBW.out.trans (hHeld.mono hBW.out.size)⟩
            · obtain ⟨j, rfl⟩ : ∃ j, k = j + 1 := by
                cases k with
                | zero => exact absurd (dvd_end hx HD.out) hx0
                | succ j => exact ⟨j, rfl⟩
              obtain ⟨d, hd⟩ : ∃ d, d = x / 281474976710656 := ⟨_, rfl⟩
              obtain ⟨y, hy⟩ : ∃ y, y = x % 281474976710656 := ⟨_, rfl⟩
              have hD := hid hd
              have hY := hid hy
              obtain ⟨hd16, hdv, hw1, hw2, hw3, hw4, hy16⟩ := dig_facts hx hd hy
              clear hd hy
              go_wp2_with fail
              go_roundw
              case rel =>
                refine ⟨j, y * 16, _, rfl, by go_num, ?_, hy16, by rw [hY.out]; exact dvd_step hx HD.out, ?_, HB.out⟩
                · rw [ext16 d hd16, ← HE.out, hxs_pos hx0, ← hD.out, ← hY.out]
                  simp [ByteArray.data_append]
                · rw [ext16 d hd16]
                  have : (s ++ (⟨#[hdB d]⟩ : ByteArray)).size = s.size + 1 := by rw [ByteArray.size_append]; rfl
                  omega
              case measure =>
                rw [ext16 d hd16]
                have : (s ++ (⟨#[hdB d]⟩ : ByteArray)).size = s.size + 1 := by rw [ByteArray.size_append]; rfl
                simp only []
                omega

end Go.Proofs.YtjkgffehafaolaaDoor
