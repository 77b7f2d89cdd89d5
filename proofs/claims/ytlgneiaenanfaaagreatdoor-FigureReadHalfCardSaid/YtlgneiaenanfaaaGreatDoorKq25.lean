/- Walks and plain laws, merged: FrI FrJ FrK. No condition. -/
import Derived.Test.YtlgneiaenanfaaaGreatDoorKq24
import Derived.Test.YtlgneiaenanfaaaGreatDoorKq11
namespace Go.Proofs.YtlgneiaenanfaaaGreatDoor
open Go.RowKit
set_option linter.unusedVariables false
set_option linter.unusedSimpArgs false
set_option maxRecDepth 100000
set_option maxHeartbeats 64000000
section
set_option maxRecDepth 100000
open Go
theorem isdigit101 (c : Int) (hc : 0 ≤ c ∧ c ≤ 255) (w : World) : Calls Tryz.prog 101 #[.int .u8 c] w fun e w' => e = .returned (.bool (isD c)) ∧ w = w' := by
 obtain ⟨b, hb⟩ : ∃ b, b = isD c := ⟨_, rfl⟩
 rw [← hb]
 by_cases h1 : 48 ≤ c
 ·by_cases h2 : c ≤ 57
  ·obtain rfl : b = true := by rw [hb]; exact isD_iff.2 ⟨h1, h2⟩
   clear hb
   go_enter Tryz.func101, Tryz.ntmps101
   go_wp2
   go_ret
   exact ⟨rfl, rfl⟩
  ·obtain rfl : b = false := by rw [hb]; exact Bool.eq_false_iff.2 (fun h => by have := isD_iff.1 h; omega)
   clear hb
   go_enter Tryz.func101, Tryz.ntmps101
   go_wp2
   go_ret
   exact ⟨rfl, rfl⟩
 ·obtain rfl : b = false := by rw [hb]; exact Bool.eq_false_iff.2 (fun h => by have := isD_iff.1 h; omega)
  clear hb
  go_enter Tryz.func101, Tryz.ntmps101
  go_wp2
  go_ret
  exact ⟨rfl, rfl⟩
def hexN (c : Int) : Int := if isD c then c - 48 else if 97 ≤ c ∧ c ≤ 102 then c - 87 else if 65 ≤ c ∧ c ≤ 70 then c - 55 else -1
theorem hexN_ge {c : Int} : 0 ≤ hexN c ↔ isH c = true := by
 rw [isH_iff]
 unfold hexN
 by_cases h : isD c = true
 ·rw [if_pos h]
  have := isD_iff.1 h
  omega
 ·rw [if_neg h]
  have h' : ¬ (48 ≤ c ∧ c ≤ 57) := fun x => h (isD_iff.2 x)
  split
  ·omega
  ·split <;> omega
theorem hexN_hxv {h : Bool} {c : Int} (hc : pD h c = true) : hexN c = (hxv c : Int) := by
  have hH : isH c = true := by cases h; · exact isD_H hc
                               · exact hc
  rw [isH_iff] at hH
  unfold hexN hxv
  by_cases hd : isD c = true
  · rw [if_pos hd, if_pos hd]
    have := isD_iff.1 hd
    omega
  · rw [if_neg hd, if_neg hd]
    have h' : ¬ (48 ≤ c ∧ c ≤ 57) := fun x => hd (isD_iff.2 x)
    by_cases h2 : 97 ≤ c ∧ c ≤ 102
    · rw [if_pos h2, if_pos h2.1]; omega
    · rw [if_neg h2, if_pos (by omega), if_neg (by omega)]; omega
theorem hexN_bd (c : Int) (hc : 0 ≤ c ∧ c ≤ 255) : -1 ≤ hexN c ∧ hexN c ≤ 15 := by
 unfold hexN
 by_cases h : isD c = true
 ·rw [if_pos h]
  have := isD_iff.1 h
  omega
 ·rw [if_neg h]
  split
  ·omega
  ·split <;> omega
theorem hexnum100 (c : Int) (hc : 0 ≤ c ∧ c ≤ 255) (w : World) : Calls Tryz.prog 100 #[.int .u8 c] w fun e w' => e = .returned (.int .i64 (hexN c)) ∧ w = w' := by
 have hdg := hid (isdigit101 c hc w)
 obtain ⟨b, hb⟩ : ∃ b, b = hexN c := ⟨_, rfl⟩
 rw [← hb]
 unfold hexN at hb
 obtain ⟨d, hd⟩ : ∃ d, d = isD c := ⟨_, rfl⟩
 rw [← hd] at hdg hb
 obtain ⟨hc1, hc2⟩ := hc
 cases d
 ·simp only [Bool.false_eq_true, if_false] at hb
  by_cases h1 : 97 ≤ c
  ·by_cases h2 : c ≤ 102
   ·rw [if_pos ⟨h1, h2⟩] at hb
    subst hb
    clear hd
    go_enter Tryz.func100, Tryz.ntmps100
    go_wp2_with (go_at_call 101; refine hdg.out.mono ?_; rintro e w' ⟨rfl, rfl⟩)
    go_ret
    exact ⟨rfl, rfl⟩
   ·rw [if_neg (by omega), if_neg (by omega)] at hb
    subst hb
    clear hd
    have h3 : ¬ c ≤ 70 := by omega
    have h4 : 65 ≤ c := by omega
    go_enter Tryz.func100, Tryz.ntmps100
    go_wp2_with (go_at_call 101; refine hdg.out.mono ?_; rintro e w' ⟨rfl, rfl⟩)
    go_ret
    exact ⟨rfl, rfl⟩
  ·rw [if_neg (by omega)] at hb
   by_cases h3 : 65 ≤ c
   ·by_cases h4 : c ≤ 70
    ·rw [if_pos ⟨h3, h4⟩] at hb
     subst hb
     clear hd
     go_enter Tryz.func100, Tryz.ntmps100
     go_wp2_with (go_at_call 101; refine hdg.out.mono ?_; rintro e w' ⟨rfl, rfl⟩)
     go_ret
     exact ⟨rfl, rfl⟩
    ·rw [if_neg (by omega)] at hb
     subst hb
     clear hd
     go_enter Tryz.func100, Tryz.ntmps100
     go_wp2_with (go_at_call 101; refine hdg.out.mono ?_; rintro e w' ⟨rfl, rfl⟩)
     go_ret
     exact ⟨rfl, rfl⟩
   ·rw [if_neg (by omega)] at hb
    subst hb
    clear hd
    go_enter Tryz.func100, Tryz.ntmps100
    go_wp2_with (go_at_call 101; refine hdg.out.mono ?_; rintro e w' ⟨rfl, rfl⟩)
    go_ret
    exact ⟨rfl, rfl⟩
 ·simp only [if_true] at hb
  subst hb
  have := isD_iff.1 hd.symm
  have h5 := this.1
  have h6 := this.2
  clear hd this
  go_enter Tryz.func100, Tryz.ntmps100
  go_wp2_with (go_at_call 101; refine hdg.out.mono ?_; rintro e w' ⟨rfl, rfl⟩)
  go_ret
  exact ⟨rfl, rfl⟩
theorem byte_bd {s : ByteArray} {k : Nat} (hk : k < s.size) : 0 ≤ (s[k].toNat : Int) ∧ (s[k].toNat : Int) ≤ 255 := by
 have := s[k].toNat_lt
 omega
def baseV (h : Bool) : Int := if h then 16 else 10
theorem row67 (h : Bool) (s : ByteArray) (hs : s.size ≤ 1000) (i : Nat) (hi : i ≤ s.size) (w : World) : Calls Tryz.prog 67 #[.string s, .int .i64 i, .int .i64 (baseV h)] w fun e w' => e = .returned (.int .i64 ((i + rowR (pD h) ((bI s).drop i) : Nat) : Int)) ∧ w = w' := by
  obtain ⟨R, hR⟩ : ∃ R : Nat, R = i + rowR (pD h) ((bI s).drop i) := ⟨_, rfl⟩
  rw [← hR]
  replace hR := hid hR
  have hdg := hid (fun (c : Int) hc w => isdigit101 c hc w)
  have hhx := hid (fun (c : Int) hc w => hexnum100 c hc w)
  obtain ⟨B, hB⟩ : ∃ B, B = baseV h := ⟨_, rfl⟩
  rw [← hB]
  have hB2 : (h = true ∧ B = 16) ∨ (h = false ∧ B = 10) := by
    cases h
    · exact Or.inr ⟨rfl, hB⟩
    · exact Or.inl ⟨rfl, hB⟩
  clear hB
  go_enter Tryz.func67, Tryz.ntmps67
  go_wp2_with fail
  go_loop [1] (fun v => ∃ k : Nat, v = .int .i64 k ∧ k ≤ s.size ∧ Hid (R = k + rowR (pD h) ((bI s).drop k))) (fun v => s.size - (intOf v).toNat)
  case atStart => exact ⟨i, rfl, hi, hid hR.out⟩
  case round =>
    obtain ⟨k, rfl, hk, hRk⟩ := hrel
    by_cases hlt : k < s.size
    · obtain ⟨c, hc⟩ : ∃ c : Int, c = (s[k].toNat : Int) := ⟨_, rfl⟩
      have hcb := byte_bd hlt
      rw [← hc] at hcb
      have hcc := hid (show (bI s).drop k = c :: (bI s).drop (k + 1) by rw [bI_drop s k hlt, hc])
      have hx := hid (hhx.out c hcb w)
      have hd := hid (hdg.out c hcb w)
      have hxb := hexN_bd c hcb
      obtain ⟨x, hxx⟩ : ∃ x, x = hexN c := ⟨_, rfl⟩
      obtain ⟨d, hdd⟩ : ∃ d, d = isD c := ⟨_, rfl⟩
      rw [← hxx] at hx hxb
      rw [← hdd] at hd
      have hci : (s[k].toNat : Int) = c := hc.symm
      have hyes : pD h c = true → Hid (R = (k + 1) + rowR (pD h) ((bI s).drop (k + 1))) := fun hp => hid (by
        have := hRk.out
        rw [hcc.out, rowR_cons, if_pos hp] at this
        omega)
      have hno : ¬ pD h c = true → Hid (R = k) := fun hp => hid (by
        have := hRk.out
        rw [hcc.out, rowR_cons, if_neg hp] at this
        omega)
      have hge := hexN_ge (c := c)
      rw [← hxx] at hge
      clear hc
      replace hxx := hid hxx
      by_cases hH : isH c = true
      · have hx0 : 0 ≤ x := hge.2 hH
        rcases hB2 with ⟨rfl, rfl⟩ | ⟨rfl, rfl⟩
        · have hnew := hyes hH
          replace hdd := hid hdd
          clear hge hyes hno hH
          go_wp2_with (go_at_call 100; refine hx.out.mono ?_; rintro e w' ⟨rfl, rfl⟩)
          go_round
          case rel => exact ⟨k + 1, by go_num, by omega, hnew⟩
          case measure => simp [intOf]; omega
        · cases d
          · have hnew := hno (fun hp => by rw [show pD false c = isD c from rfl, ← hdd] at hp; cases hp)
            clear hge hyes hno hH hdd
            go_wp2_with (first | (go_at_call 100; refine hx.out.mono ?_; rintro e w' ⟨rfl, rfl⟩) | (go_at_call 101; refine hd.out.mono ?_; rintro e w' ⟨rfl, rfl⟩))
            go_ret
            exact ⟨by rw [hnew.out]; rfl, rfl⟩
          · have hnew := hyes (by rw [show pD false c = isD c from rfl, ← hdd])
            clear hge hyes hno hH hdd
            go_wp2_with (first | (go_at_call 100; refine hx.out.mono ?_; rintro e w' ⟨rfl, rfl⟩) | (go_at_call 101; refine hd.out.mono ?_; rintro e w' ⟨rfl, rfl⟩))
            go_round
            case rel => exact ⟨k + 1, by go_num, by omega, hnew⟩
            case measure => simp [intOf]; omega
      · have hx0 : ¬ 0 ≤ x := fun h => hH (hge.1 h)
        have hx1 : x < 0 := by omega
        have hnew := hno (fun hp => hH (by cases h; · exact isD_H hp
                                           · exact hp))
        replace hdd := hid hdd
        clear hge hyes hno hH hx0
        go_wp2_with (go_at_call 100; refine hx.out.mono ?_; rintro e w' ⟨rfl, rfl⟩)
        go_ret
        exact ⟨by rw [hnew.out]; rfl, rfl⟩
    · have hnew := hid (show R = k by
        have := hRk.out
        rw [List.drop_eq_nil_of_le (by rw [bI_len]; omega), rowR_nil] at this
        exact this)
      go_wp2_with fail
      go_ret
      exact ⟨by rw [hnew.out]; rfl, rfl⟩
end
section
set_option maxRecDepth 100000
open Go
def CV (h : Bool) : Nat := if h then 16 else 10
theorem CV_le (h : Bool) : CV h ≤ 16 := by cases h <;> decide
structure GA (h : Bool) (s : ByteArray) (w wx : World) (v : Value) (n0 i k j A R : Nat) : Prop where
 nt : Nt wx v A
 eq : gat (CV h) (((bI s).drop j).take (k - j)) A = R
 lt : A < 2 ^ (4 * (n0 + (j - i)))
 be : Below w.heap.size w wx
theorem gat_step_lt {A x C e : Nat} (hA : A < 2 ^ (4 * e)) (hC : C ≤ 16) (hx : x < C) : A * C + x < 2 ^ (4 * (e + 1)) := by
 have h1 : A * C + x < (A + 1) * C := by rw [Nat.add_mul]; omega
 have h2 : (A + 1) * C ≤ 2 ^ (4 * e) * 16 := Nat.mul_le_mul hA hC
 have h3 : 2 ^ (4 * (e + 1)) = 2 ^ (4 * e) * 16 := by rw [Nat.mul_add, Nat.pow_add]
 omega
theorem gather68 (h : Bool) (s : ByteArray) (hs : s.size ≤ 64) (i k n0 A : Nat) (hik : i ≤ k) (hk : k ≤ s.size) (hn0 : n0 ≤ 1000) (hA : A < 2 ^ (4 * n0)) (hp : ∀ c ∈ ((bI s).drop i).take (k - i), pD h c = true) (v : Value) (w : World) (hv : Nt w v A) :
  Calls Tryz.prog 68 #[v, .string s, .int .i64 i, .int .i64 k, .int .i64 (baseV h)] w (NtR w (gat (CV h) (((bI s).drop i).take (k - i)) A)) := by
 obtain ⟨R, hR⟩ : ∃ R : Nat, R = gat (CV h) (((bI s).drop i).take (k - i)) A := ⟨_, rfl⟩
 rw [← hR]
 have hhx := hid (fun (c : Int) hc w => hexnum100 c hc w)
 obtain ⟨B, hB⟩ : ∃ B, B = baseV h := ⟨_, rfl⟩
 rw [← hB]
 have hBC : B = (CV h : Int) := by rw [hB]; cases h <;> rfl
 have hC16 := CV_le h
 have hB1 : 0 ≤ B := by omega
 have hB2 : B ≤ 16 := by omega
 have hG := hid (show GA h s w w v n0 i k i A R from ⟨hv, hR.symm, by rw [Nat.sub_self]; exact hA, Below.refl _ _⟩)
 replace hp := hid hp
 obtain ⟨ao, n, c0, rfl⟩ := hv.sh
 replace hB := hid hB
 replace hBC := hid hBC
 replace hR := hid hR
 clear hv hA
 go_enter Tryz.func68, Tryz.ntmps68
 go_wp2_with fail
 go_loopw [0, 2] (fun v q wr => ∃ j A' : Nat, q = .int .i64 j ∧ i ≤ j ∧ j ≤ k ∧ Hid (GA h s w wr v n0 i k j A' R)) (fun _ q _ => k - (intOf q).toNat)
 case atStart => exact ⟨i, A, rfl, Nat.le_refl _, hik, hG⟩
 case round =>
  obtain ⟨j, A', rfl, hij, hjk, hGA⟩ := hrel
  clear hG
  by_cases hlt : j < k
  ·obtain ⟨c, hc⟩ : ∃ c : Int, c = (s[j]'(by omega)).toNat := ⟨_, rfl⟩
   have hcb := byte_bd (s := s) (k := j) (by omega)
   rw [← hc] at hcb
   have hci : ((s[j]'(by omega)).toNat : Int) = c := hc.symm
   have hseg : ((bI s).drop j).take (k - j) = c :: ((bI s).drop (j + 1)).take (k - (j + 1)) := by
    rw [bI_drop s j (by omega), show k - j = (k - (j + 1)) + 1 by omega, List.take_succ_cons, hc]
   have hpc : pD h c = true := by
    apply hp.out
    have : c ∈ ((bI s).drop j).take (k - j) := by rw [hseg]; exact List.mem_cons_self
    have h2 : ((bI s).drop j).take (k - j) = (((bI s).drop i).take (k - i)).drop (j - i) := by
     rw [List.drop_take, List.drop_drop, show i + (j - i) = j by omega, show k - i - (j - i) = k - j by omega]
    rw [h2] at this
    exact List.mem_of_mem_drop this
   have hXV := hexN_hxv hpc
   have hlx := hxv_lt (B := CV h) (h := h) rfl hpc
   obtain ⟨x, hxx⟩ : ∃ x, x = hxv c := ⟨_, rfl⟩
   rw [← hxx] at hXV hlx
   have hx := hid (hhx.out c hcb)
   rw [hXV] at hx
   have hA1 := hGA.out.lt
   have hst := gat_step_lt hA1 hC16 hlx
   have hnewe := hGA.out.eq
   rw [hseg, gat_cons, ← hxx] at hnewe
   have hts := hid (fun v w1 (h1 : Nt w1 v A') => times84 A' (CV h) x (by omega) (by omega) (Sm_of hA1 (by omega)) v w1 h1)
   have hN1 := hid hGA.out.nt
   have hBe := hid hGA.out.be
   have hsz := hBe.out.size
   have hBw : IntKind.u32.wrap B = (CV h : Int) := by rw [hBC.out, IntKind.wrap_u32]; omega
   have hnew := hid (show ∀ v w2, Nt w2 v (A' * CV h + x) → Below w.heap.size w w2 → GA h s w w2 v n0 i k (j + 1) (A' * CV h + x) R from fun v w2 h1 h2 => ⟨h1, hnewe, by rw [show n0 + (j + 1 - i) = n0 + (j - i) + 1 by omega]; exact hst, h2⟩)
   have hxw : (x : Int) ≤ 15 := by omega
   have hjs : j < s.size := by omega
   have hBm : B % 4294967296 = B := Int.emod_eq_of_lt (by omega) (by omega)
   have hBw2 := hBC.out
   rw [← hBC.out] at hBw
   have hts2 : Hid (∀ v w1, Nt w1 v A' → Calls Tryz.prog 84 #[v, .int .u32 B, .int .u32 (x : Int)] w1 (NtR w1 (A' * CV h + x))) := hid (fun v w1 h1 => by rw [hBC.out]; exact hts.out v w1 h1)
   clear hc hseg hpc hXV hlx hA1 hst hnewe hBw hBw2 hts hGA
   replace hxx := hid hxx
   go_wp2_with (go_at_call 100; refine (hx.out _).mono ?_; rintro e w' ⟨rfl, rfl⟩)
   refine (hts2.out _ _ hN1.out).mono ?_
   rintro e w2 ⟨v2, rfl, h1, h2⟩
   have hn2 := hid (hnew.out _ _ h1 (hBe.out.trans (h2.mono hsz)))
   replace h1 := hid h1
   replace h2 := hid h2
   go_wp2_with fail
   go_roundw
   case rel => exact ⟨j + 1, _, by go_num, by omega, by omega, hn2⟩
   case measure => simp [intOf]; omega
  ·obtain rfl : j = k := by omega
   have hfin : A' = R := by have := hGA.out.eq; rw [Nat.sub_self, List.take_zero, gat_nil] at this; exact this
   have hN1 := hid hGA.out.nt
   have hBe := hid hGA.out.be
   rw [hfin] at hN1
   clear hfin hGA
   go_wp2_with fail
   go_ret
   exact ⟨_, rfl, hN1.out, hBe.out⟩
def o2 (o : Option Nat) : Value := match o with | some a => .tuple #[.int .i64 (a : Int), .int .i64 40] | none => .tuple #[.int .i64 0, .int .i64 0]
theorem word66 (s wd : ByteArray) (hs : s.size ≤ 1000) (hw : wd.size ≤ 1000) (i : Nat) (hi : i ≤ s.size) (w : World) :
  Calls Tryz.prog 66 #[.string s, .int .i64 i, .string wd] w fun e w' => e = .returned (o2 (wordR (bI wd) ((bI s).drop i) i)) ∧ Below w.heap.size w w' := by
 obtain ⟨o, ho⟩ : ∃ o, o = wordR (bI wd) ((bI s).drop i) i := ⟨_, rfl⟩
 rw [← ho]
 replace ho := hid ho
 obtain ⟨n, hn⟩ : ∃ n, n = wd.size := ⟨_, rfl⟩
 have hnn := hid hn
 clear hn
 go_enter Tryz.func66, Tryz.ntmps66
 go_wp2_with fail
 go_loopw [8] (fun v wr => ∃ k : Nat, v = .int .i64 k ∧ k ≤ wd.size ∧ Hid (o = wordR ((bI wd).drop k) ((bI s).drop (i + k)) (i + k) ∧ i + k ≤ s.size) ∧ Hid (Below w.heap.size w wr)) (fun v _ => wd.size - (intOf v).toNat)
 case atStart => exact ⟨0, rfl, Nat.zero_le _, hid ⟨ho.out, hi⟩, hid (Below.refl _ _)⟩
 case round =>
  obtain ⟨k, rfl, hk, hr, hB⟩ := hrel
  have hr1 := hr.out.2
  by_cases hlt : k < wd.size
  ·obtain ⟨b, hb⟩ : ∃ b : Int, b = (wd[k].toNat : Int) := ⟨_, rfl⟩
   have hbi : (wd[k].toNat : Int) = b := hb.symm
   have hr0 := hr.out.1
   rw [bI_drop wd k hlt, ← hb] at hr0
   clear hb
   by_cases hls : i + k < s.size
   ·obtain ⟨c, hc⟩ : ∃ c : Int, c = (s[i + k].toNat : Int) := ⟨_, rfl⟩
    have hci : (s[i + k].toNat : Int) = c := hc.symm
    rw [bI_drop s (i + k) hls, ← hc] at hr0
    clear hc
    obtain ⟨m, hm⟩ : ∃ m, m = i + k := ⟨_, rfl⟩
    have hwr : IntKind.i64.wrap (m : Int) = (m : Int) := IntWalk.i64_in _ (by omega)
    have hwr2 : (i : Int) + (k : Int) = (m : Int) := by omega
    have hms : m < s.size := by omega
    have hmc : (s[m].toNat : Int) = c := by rw [← hci]; congr;
    have hmi : ¬ (s.size : Int) ≤ (m : Int) := by omega
    replace hm := hid hm
    clear hci hr1
    by_cases hbc : b = c
    ·have hnew := hid (show o = wordR ((bI wd).drop (k + 1)) ((bI s).drop (i + (k + 1))) (i + (k + 1)) ∧ i + (k + 1) ≤ s.size from ⟨by rw [hr0, wordR, if_pos hbc]; rfl, by omega⟩)
     subst hbc
     clear hr0
     go_wp2_with fail
     go_quiet (fail)
     go_wp2_with fail
     go_roundw
     case rel => exact ⟨k + 1, by go_num, by omega, hnew, hid (below_drewN hB.out _)⟩
     case measure => simp [intOf]; omega
    ·have hfin := hid (show o = some m by rw [hr0, wordR, if_neg hbc, hm.out])
     have hbc2 : (c == b) = false := by simpa using fun e => hbc e.symm
     have hbc3 : (c != b) = true := by simpa using fun e => hbc e.symm
     clear hr0 hbc
     go_wp2_with fail
     go_quiet (fail)
     go_wp2_with fail
     go_ret2
     exact ⟨by rw [hfin.out]; rfl, (below_drewN hB.out _)⟩
   ·have hfin := hid (show o = some (i + k) by rw [hr0, show (bI s).drop _ = [] from List.drop_eq_nil_of_le (by rw [bI_len]; omega)]; rfl)
    obtain ⟨m, hm⟩ : ∃ m, m = i + k := ⟨_, rfl⟩
    have hwr : IntKind.i64.wrap (m : Int) = (m : Int) := IntWalk.i64_in _ (by omega)
    have hwr2 : (i : Int) + (k : Int) = (m : Int) := by omega
    have hls2 : (s.size : Int) ≤ (m : Int) := by omega
    rw [← hm] at hfin
    replace hm := hid hm
    clear hr0 hr1
    go_wp2_with fail
    go_quiet (fail)
    go_wp2_with fail
    go_ret2
    exact ⟨by rw [hfin.out]; rfl, (below_drewN hB.out _)⟩
  ·obtain rfl : k = wd.size := by omega
   have hr0 := hr.out.1
   rw [List.drop_eq_nil_of_le (Nat.le_of_eq (bI_len wd))] at hr0
   by_cases hls : i + wd.size < s.size
   ·have hfin := hid (show o = some (i + wd.size) by rw [hr0, bI_drop s _ hls]; rfl)
    have hls2 : (i : Int) + (wd.size : Int) < (s.size : Int) := by omega
    clear hr0
    go_wp2_with fail
    go_ret2
    exact ⟨by rw [hfin.out]; rfl, hB.out⟩
   ·have hfin := hid (show o = none by rw [hr0, show (bI s).drop _ = [] from List.drop_eq_nil_of_le (by rw [bI_len]; omega)]; rfl)
    have hls2 : ¬ (i : Int) + (wd.size : Int) < (s.size : Int) := by omega
    clear hr0
    go_wp2_with fail
    go_ret2
    exact ⟨by rw [hfin.out]; rfl, hB.out⟩
end
section
set_option maxRecDepth 100000
open Go
theorem frame72 (a : Act) (hd : a.defers = []) (hs : a.tmps.size = 72) : ∃ u : Nat → Value, (∀ i, u i = a.tmps.getD i undef) ∧ a = { tmps := #[u 0, u 1, u 2, u 3, u 4, u 5, u 6, u 7, u 8, u 9, u 10, u 11, u 12, u 13, u 14, u 15, u 16, u 17, u 18, u 19, u 20, u 21, u 22, u 23, u 24, u 25, u 26, u 27, u 28, u 29, u 30, u 31, u 32, u 33, u 34, u 35, u 36, u 37, u 38, u 39, u 40, u 41, u 42, u 43, u 44, u 45, u 46, u 47, u 48, u 49, u 50, u 51, u 52, u 53, u 54, u 55, u 56, u 57, u 58, u 59, u 60, u 61, u 62, u 63, u 64, u 65, u 66, u 67, u 68, u 69, u 70, u 71], defers := [] } := by
 refine ⟨fun i => a.tmps.getD i undef, fun _ => rfl, ?_⟩
 obtain ⟨t, d⟩ := a
 simp only at hd hs
 subst hd
 congr 1
 have e : t = ((List.range 72).map fun i => t.getD i undef).toArray := by
  apply Array.ext
  ·simp [hs]
  ·intro i h1 h2
   simp [Array.getD, h1]
 exact e.trans (by kernel_rfl)
theorem two_boxes (w : World) (A B : Obj) : ((w.alloc A).alloc B).heap[w.heap.size]? = some A ∧ ((w.alloc A).alloc B).heap[w.heap.size + 1]? = some B ∧ Below w.heap.size w ((w.alloc A).alloc B) ∧ ((w.alloc A).alloc B).heap.size = w.heap.size + 2 := by
 refine ⟨?_, ?_, ((Below.refl _ _).alloc (Nat.le_refl _) _).alloc (by simp) _, by simp⟩
 ·rw [((Below.refl (w.alloc A).heap.size (w.alloc A)).alloc (Nat.le_refl _) B).block _ (by simp)]
  exact heap_alloc_new w A
 ·have h := heap_alloc_new (w.alloc A) B
  rw [show (w.alloc A).heap.size = w.heap.size + 1 by simp] at h
  exact h
theorem powR_eq {L L1 : List Int} {i i1 : Nat} (h1 : L1 = L.drop (signR L)) (h2 : i1 = i + signR L) : powR L i = if rowR isD L1 = 0 ∨ rowR isD L1 < L1.length then some (i1 + rowR isD L1) else none := by
 subst h1 h2
 rfl
structure SG (s : ByteArray) (i i1 : Nat) (mn : Bool) (sg : List Int) : Prop where
 le : i1 ≤ s.size
 ap : (bI s).drop i = sg ++ (bI s).drop i1
 eq : powR ((bI s).drop i) i = if rowR isD ((bI s).drop i1) = 0 ∨ rowR isD ((bI s).drop i1) < ((bI s).drop i1).length then some (i1 + rowR isD ((bI s).drop i1)) else none
 sgs : sg = [] ∨ sg = [43] ∨ sg = [45]
 mns : mn = decide (sg = [45])
theorem SG.plain {s : ByteArray} {i : Nat} (hi : i ≤ s.size) (h : ∀ c r, (bI s).drop i = c :: r → c ≠ 43 ∧ c ≠ 45) : SG s i i false [] := by
 have h0 : signR ((bI s).drop i) = 0 := by
  cases hL : (bI s).drop i with
  | nil => rfl
  | cons c r =>
   have := h c r hL
   unfold signR
   simp [this]
 exact ⟨hi, rfl, powR_eq (by rw [h0]; rfl) (by rw [h0]; rfl), Or.inl rfl, rfl⟩
theorem SG.signed {s : ByteArray} {i : Nat} (hi : i < s.size) {c : Int} (hc : (s[i].toNat : Int) = c) (h : c = 43 ∨ c = 45) : SG s i (i + 1) (decide (c = 45)) [c] := by
 have hL := bI_drop s i hi
 rw [hc] at hL
 have h0 : signR ((bI s).drop i) = 1 := by rw [hL]; unfold signR; simp [h]
 refine ⟨hi, by rw [hL]; rfl, powR_eq (by rw [h0, hL]; rfl) (by rw [h0]), ?_, by simp⟩
 rcases h with rfl | rfl
 ·exact Or.inr (Or.inl rfl)
 ·exact Or.inr (Or.inr rfl)
theorem results_cell_tmp2 {fn : Func} {p u x : Tmp} {ty : TypeId} (h : fn.results = #[.cell p ty, .tmp u, .tmp x]) (tmps : Array Value) (P : Program) (w : World) :
  (results fn tmps).run P w = ((asAddr (tmps.getD p undef)).run P w).andThen fun a w₁ => ((loadVar ty a).run P w₁).andThen fun v w₂ => .ok (.tuple #[v, tmps.getD u undef, tmps.getD x undef]) w₂ := by
 simp only [results, h]
 simp [Sem.run_bind, Result.andThen]
theorem fig_cells {w : World} {B : Nat} {a0 a1 a2 a3 a4 : Value} (h : w.heap[B]? = some (.cells #[a0, a1, a2, a3, a4] 55 (0, 0))) : (w.cell? ⟨B, 0, none⟩ = some a0 ∧ w.cell? ⟨B, 1, none⟩ = some a1 ∧ w.cell? ⟨B, 2, none⟩ = some a2 ∧ w.cell? ⟨B, 3, none⟩ = some a3 ∧ w.cell? ⟨B, 4, none⟩ = some a4) ∧ (w.frozen? ⟨B, 0, none⟩ = false ∧ w.frozen? ⟨B, 1, none⟩ = false ∧ w.frozen? ⟨B, 2, none⟩ = false ∧ w.frozen? ⟨B, 3, none⟩ = false ∧ w.frozen? ⟨B, 4, none⟩ = false) :=
 ⟨⟨(cell_of_row w _ 0 _ 55 (0, 0) h).trans rfl, (cell_of_row w _ 1 _ 55 (0, 0) h).trans rfl, (cell_of_row w _ 2 _ 55 (0, 0) h).trans rfl, (cell_of_row w _ 3 _ 55 (0, 0) h).trans rfl, (cell_of_row w _ 4 _ 55 (0, 0) h).trans rfl⟩, frozen_of_row w _ 0 _ 55 h, frozen_of_row w _ 1 _ 55 h, frozen_of_row w _ 2 _ 55 h, frozen_of_row w _ 3 _ 55 h, frozen_of_row w _ 4 _ 55 h⟩
theorem fig_store {w : World} {B : Nat} {a0 a1 a2 a3 a4 : Value} (h : w.heap[B]? = some (.cells #[a0, a1, a2, a3, a4] 55 (0, 0))) (b0 b1 b2 b3 b4 : Value) :
  (((((w.setCell ⟨B, 0, none⟩ b0).setCell ⟨B, 1, none⟩ b1).setCell ⟨B, 2, none⟩ b2).setCell ⟨B, 3, none⟩ b3).setCell ⟨B, 4, none⟩ b4).heap[B]? = some (.cells #[b0, b1, b2, b3, b4] 55 (0, 0)) ∧ ∀ w0 C, Below C w0 w → C ≤ B → Below C w0 (((((w.setCell ⟨B, 0, none⟩ b0).setCell ⟨B, 1, none⟩ b1).setCell ⟨B, 2, none⟩ b2).setCell ⟨B, 3, none⟩ b3).setCell ⟨B, 4, none⟩ b4) :=
 ⟨heap_setCell_same _ B 4 _ 55 b4 (heap_setCell_same _ B 3 _ 55 b3 (heap_setCell_same _ B 2 _ 55 b2 (heap_setCell_same _ B 1 _ 55 b1 (heap_setCell_same _ B 0 _ 55 b0 h)))), fun w0 C hb hC => Below.setCell (Below.setCell (Below.setCell (Below.setCell (Below.setCell hb hC _) hC _) hC _) hC _) hC _⟩
def PwR (s : ByteArray) (i : Nat) (k0 : Int) (m0 : Bool) (v0 : Value) (b0 p0 : Int) (w : World) (e : Ending) (w' : World) : Prop := Below w.heap.size w w' ∧
 ((∃ a : Nat, powR ((bI s).drop i) i = some a ∧ e = .returned (.tuple #[.agg #[.int .i64 k0, .bool m0, v0, .int .i64 b0, .int .i64 p0], .int .i64 (a : Int), .int .i64 40])) ∨
 (powR ((bI s).drop i) i = none ∧ ∃ sg E : List Int, (bI s).drop i = sg ++ E ∧ (sg = [] ∨ sg = [43] ∨ sg = [45]) ∧ (∀ c ∈ E, isD c = true) ∧ E ≠ [] ∧ e = .returned (.tuple #[.agg #[.int .i64 k0, .bool m0, v0, .int .i64 b0, .int .i64 (p0 + (if sg = [45] then -(satE 1000000 E 0 : Int) else (satE 1000000 E 0 : Int)))], .int .i64 0, .int .i64 0])))
theorem power69 (s : ByteArray) (hs : s.size ≤ 64) (i : Nat) (hi : i ≤ s.size) (k0 : Int) (m0 : Bool) (ao : Option Addr) (n0 c0 : Nat) (b0 p0 : Int) (hp0 : -1000 ≤ p0 ∧ p0 ≤ 1000) (w : World) :
  Calls Tryz.prog 69 #[.agg #[.int .i64 k0, .bool m0, .slice ao n0 c0, .int .i64 b0, .int .i64 p0], .string s, .int .i64 i] w (PwR s i k0 m0 (.slice ao n0 c0) b0 p0 w) := by
 obtain ⟨w0, hw0⟩ : ∃ w0, w0 = (w.alloc (.cells #[.int .i64 k0, .bool m0, .slice ao n0 c0, .int .i64 b0, .int .i64 p0] 55)).alloc (.cells #[.int .i64 0, .bool false, .slice none 0 0, .int .i64 0, .int .i64 0] 55) := ⟨_, rfl⟩
 obtain ⟨b0', b1', hB0, hz0⟩ := two_boxes w (.cells #[.int .i64 k0, .bool m0, .slice ao n0 c0, .int .i64 b0, .int .i64 p0] 55) (.cells #[.int .i64 0, .bool false, .slice none 0 0, .int .i64 0, .int .i64 0] 55)
 rw [← hw0] at b0' b1' hB0 hz0
 have hp1 := hp0.1
 have hp2 := hp0.2
 replace hw0 := hid hw0
 replace b0' := hid b0'
 replace b1' := hid b1'
 go_enter Tryz.func69, Tryz.ntmps69
 refine wp_seq_k fun K1 h1 => ?_
 have h1' := hid h1
 clear h1
 go_wp2_with fail
 refine h1'.out _ _ ?_
 clear h1'
 refine wp_seq_k fun K1 h1 => ?_
 have h1' := hid h1
 clear h1
 go_wp2_with fail
 refine h1'.out _ _ ?_
 clear h1'
 rw [← hw0.out]
 refine cut_seq (fun a' w' => ∃ (i1 : Nat) (mn : Bool) (sg : List Int), Hid (SG s i i1 mn sg) ∧ w' = w0 ∧ a'.defers = [] ∧ a'.tmps.size = 72 ∧ a'.tmps.getD 1 undef = .string s ∧ a'.tmps.getD 2 undef = .int .i64 (i1 : Int) ∧ a'.tmps.getD 3 undef = .pointer (some ⟨w.heap.size, 0, none⟩) ∧ a'.tmps.getD 6 undef = .pointer (some ⟨w.heap.size + 1, 0, none⟩) ∧ a'.tmps.getD 9 undef = .bool mn) ?h1 ?h2
 case h1 =>
  intro K hK
  have hK' := hid hK
  clear hK
  by_cases hlt : i < s.size
  ·obtain ⟨c, hc⟩ : ∃ c : Int, c = (s[i].toNat : Int) := ⟨_, rfl⟩
   have hci : (s[i].toNat : Int) = c := hc.symm
   have hcb := byte_bd hlt
   rw [← hc] at hcb
   by_cases h43 : c = 43
   ·have hnew := hid (SG.signed hlt hci (Or.inl h43))
    subst h43
    clear hc
    go_wp2_with fail
    exact hK'.out _ _ ⟨i + 1, _, _, hnew, rfl, rfl, rfl, rfl, by go_num, rfl, rfl, rfl⟩
   by_cases h45 : c = 45
   ·have hnew := hid (SG.signed hlt hci (Or.inr h45))
    subst h45
    clear hc h43
    go_wp2_with fail
    exact hK'.out _ _ ⟨i + 1, _, _, hnew, rfl, rfl, rfl, rfl, by go_num, rfl, rfl, rfl⟩
   have hnew := hid (SG.plain (s := s) (i := i) hi (fun c' r h => by
    rw [bI_drop s i hlt, hci] at h
    injection h with h1 h2
    subst h1
    exact ⟨h43, h45⟩))
   have e43 : (c == 43) = false := by simpa using h43
   have e45 : (c == 45) = false := by simpa using h45
   clear hc h43 h45
   go_wp2_with fail
   exact hK'.out _ _ ⟨i, _, _, hnew, rfl, rfl, rfl, rfl, rfl, rfl, rfl, rfl⟩
  ·have hnew := hid (SG.plain (s := s) (i := i) hi (fun c' r h => by
    rw [List.drop_eq_nil_of_le (by rw [bI_len]; omega)] at h
    cases h))
   go_wp2_with fail
   exact hK'.out _ _ ⟨i, _, _, hnew, rfl, rfl, rfl, rfl, rfl, rfl, rfl, rfl⟩
 case h2 =>
  rintro a wc ⟨i1, mn, sg, hSG, rfl, hd0, hz0, f1, f2, f3, f6, f9⟩
  obtain ⟨u, hu, ha⟩ := frame72 a hd0 hz0
  rw [(hu 1).trans f1, (hu 2).trans f2, (hu 3).trans f3, (hu 6).trans f6, (hu 9).trans f9] at ha
  clear f1 f2 f3 f6 f9 hu hd0 hz0
  subst ha
  have hi1 := hSG.out.le
  have hrow := hid (row67 false s (by omega) i1 hi1 wc)
  rw [show baseV false = 10 from rfl, show pD false = isD from rfl] at hrow
  obtain ⟨k, hk⟩ : ∃ k, k = i1 + rowR isD ((bI s).drop i1) := ⟨_, rfl⟩
  rw [← hk] at hrow
  have hkl : k ≤ s.size := by
   have h1 := rowR_le isD ((bI s).drop i1)
   rw [List.length_drop, bI_len] at h1
   omega
  have heq := hSG.out.eq
  rw [List.length_drop, bI_len] at heq
  have hSG' := hid hSG.out.ap
  have hsgs := hid hSG.out.sgs
  have hmns := hid hSG.out.mns
  obtain ⟨⟨x0, x1, x2, x3, x4⟩, y0, y1, y2, y3, y4⟩ := fig_cells b0'.out
  obtain ⟨⟨q0, q1, q2, q3, q4⟩, g0, g1, g2, g3, g4⟩ := fig_cells b1'.out
  by_cases herr : k = i1 ∨ k < s.size
  ·rw [if_pos (by omega)] at heq
   have hfin := hid (show powR ((bI s).drop i) i = some k by rw [heq, hk])
   replace hk := hid hk
   clear heq
   by_cases hki : k = i1
   ·have hki' := hid hki
    have hkb : ((k : Int) == (i1 : Int)) = true := beq_iff_eq.2 (by omega)
    clear hki herr
    go_wp2_with (go_at_call 67; refine hrow.out.mono ?_; rintro e w' ⟨rfl, rfl⟩)
    have hst := fig_store b1'.out (.int .i64 k0) (.bool m0) (.slice ao n0 c0) (.int .i64 b0) (.int .i64 p0)
    refine bodyPost_ret (v := .tuple #[.agg #[.int .i64 k0, .bool m0, .slice ao n0 c0, .int .i64 b0, .int .i64 p0], .int .i64 (k : Int), .int .i64 40]) ?_ rfl ⟨hst.2 _ _ hB0 (by omega), .inl ⟨k, hfin.out, rfl⟩⟩
    rw [results_cell_tmp2 rfl]
    have hload := run_loadVar_row (P := Tryz.prog) _ (w.heap.size + 1) 55 55 _ (0, 0) _ hst.1 Tryz.underlying55 rfl (by kernel_rfl)
    simp [asAddr, Result.andThen, hload]
   ·have hks : k < s.size := by omega
    have hkb : ((k : Int) == (i1 : Int)) = false := beq_eq_false_iff_ne.2 (by omega)
    clear hki herr
    go_wp2_with (go_at_call 67; refine hrow.out.mono ?_; rintro e w' ⟨rfl, rfl⟩)
    have hst := fig_store b1'.out (.int .i64 k0) (.bool m0) (.slice ao n0 c0) (.int .i64 b0) (.int .i64 p0)
    refine bodyPost_ret (v := .tuple #[.agg #[.int .i64 k0, .bool m0, .slice ao n0 c0, .int .i64 b0, .int .i64 p0], .int .i64 (k : Int), .int .i64 40]) ?_ rfl ⟨hst.2 _ _ hB0 (by omega), .inl ⟨k, hfin.out, rfl⟩⟩
    rw [results_cell_tmp2 rfl]
    have hload := run_loadVar_row (P := Tryz.prog) _ (w.heap.size + 1) 55 55 _ (0, 0) _ hst.1 Tryz.underlying55 rfl (by kernel_rfl)
    simp [asAddr, Result.andThen, hload]
  ·have hks : k = s.size := by omega
   have hki : k ≠ i1 := by omega
   have hi1k : i1 < s.size := by omega
   rw [if_neg (by omega)] at heq
   have hfin := hid heq
   have hall := hid (row_all (p := isD) (l := (bI s).drop i1) (by rw [List.length_drop, bI_len]; omega))
   have hEne := hid (show (bI s).drop i1 ≠ [] by intro h; have := at_end h (by omega); omega)
   have hkb : ((k : Int) == (i1 : Int)) = false := beq_eq_false_iff_ne.2 (by omega)
   clear heq herr hki
   subst hks
   replace hk := hid hk
   go_wp2_with (go_at_call 67; refine hrow.out.mono ?_; rintro e w' ⟨rfl, rfl⟩)
   go_loop [2, 11] (fun a b => ∃ j x : Nat, a = .int .i64 j ∧ b = .int .i64 x ∧ i1 ≤ j ∧ j ≤ s.size ∧ (x : Int) < 10000000 ∧ Hid (satE 1000000 ((bI s).drop j) x = satE 1000000 ((bI s).drop i1) 0)) (fun a _ => s.size - (intOf a).toNat)
   case atStart => exact ⟨i1, 0, rfl, rfl, Nat.le_refl _, hi1, by omega, hid rfl⟩
   case round =>
    obtain ⟨j, x, rfl, rfl, hij, hj, hx, hsat⟩ := hrel
    by_cases hlt : j < s.size
    ·obtain ⟨c, hc⟩ : ∃ c : Int, c = (s[j].toNat : Int) := ⟨_, rfl⟩
     have hci : (s[j].toNat : Int) = c := hc.symm
     have hjd := bI_drop s j hlt
     rw [← hc] at hjd
     have hcD : isD c = true := by
      apply hall.out
      have h1 : c ∈ (bI s).drop j := by rw [hjd]; exact List.mem_cons_self
      rw [show j = i1 + (j - i1) by omega, ← List.drop_drop] at h1
      exact List.mem_of_mem_drop h1
     have h9 := hxv_9 hcD
     have hs2 := hsat.out
     rw [hjd, satE_cons] at hs2
     have hcd := isD_iff.1 hcD
     have hcd1 := hcd.1
     have hcd2 := hcd.2
     by_cases hx6 : x < 1000000
     ·rw [if_pos hx6] at hs2
      have hx7 : (x : Int) < 1000000 := by omega
      have hnew := hid hs2
      obtain ⟨x2, hx2⟩ : ∃ x2, x2 = 10 * x + hxv c := ⟨_, rfl⟩
      have hx2i : 10 * (x : Int) + c - 48 = (x2 : Int) := by omega
      have hx2b : (x2 : Int) < 10000000 := by omega
      rw [← hx2] at hnew
      have h92 := h9.2
      clear hs2 hc hjd hcD h9 h92 hcd hx2 hx6
      go_wp2_with fail
      go_round
      case rel => exact ⟨j + 1, x2, by go_num, by first | rfl | exact val_int hx2i, by omega, by omega, hx2b, hnew⟩
      case measure => simp [intOf]; omega
     ·rw [if_neg hx6] at hs2
      have hx7 : ¬ (x : Int) < 1000000 := by omega
      have hnew := hid hs2
      clear hs2 hc hjd hcD h9 hcd hx6
      go_wp2_with fail
      go_round
      case rel => exact ⟨j + 1, x, by go_num, rfl, by omega, by omega, hx, hnew⟩
      case measure => simp [intOf]; omega
    ·obtain rfl : j = s.size := by omega
     have hxe : x = satE 1000000 ((bI s).drop i1) 0 := by
      have := hsat.out
      rw [List.drop_eq_nil_of_le (by rw [bI_len]; omega)] at this
      exact this
     replace hxe := hid hxe
     have hap := hid hSG'.out
     obtain ⟨X, hX⟩ : ∃ X : Int, X = (if sg = [45] then -(satE 1000000 ((bI s).drop i1) 0 : Int) else (satE 1000000 ((bI s).drop i1) 0 : Int)) := ⟨_, rfl⟩
     have c1 := heap_setCell_same wc w.heap.size 4 _ 55 (.int .i64 (p0 + X)) b0'.out
     have c2 : (wc.setCell ⟨w.heap.size, 4, none⟩ (.int .i64 (p0 + X))).heap[w.heap.size + 1]? = some (.cells #[.int .i64 0, .bool false, .slice none 0 0, .int .i64 0, .int .i64 0] 55 (0, 0)) := by
      rw [Below.heap_setCell wc ⟨w.heap.size, 4, none⟩ _ (w.heap.size + 1) (by simp)]
      exact b1'.out
     have hfz := fig_store c2 (.int .i64 k0) (.bool m0) (.slice ao n0 c0) (.int .i64 b0) (.int .i64 (p0 + X))
     have hBz := hfz.2 w w.heap.size (Below.setCell hB0 (Nat.le_refl _) _) (by omega)
     have hload := run_loadVar_row (P := Tryz.prog) _ (w.heap.size + 1) 55 55 _ (0, 0) _ hfz.1 Tryz.underlying55 rfl (by kernel_rfl)
     have hend := hid (show ∀ e, e = .returned (.tuple #[.agg #[.int .i64 k0, .bool m0, .slice ao n0 c0, .int .i64 b0, .int .i64 (p0 + X)], .int .i64 0, .int .i64 0]) → ∀ w', Below w.heap.size w w' → PwR s i k0 m0 (.slice ao n0 c0) b0 p0 w e w' from fun e he w' hb => ⟨hb, .inr ⟨hfin.out, sg, _, hap.out, hsgs.out, hall.out, hEne.out, by rw [← hX]; exact he⟩⟩)
     replace hload := hid hload
     replace hBz := hid hBz
     clear c1 c2 hfz
     cases mn
     ·have hx8 : (x : Int) = X := by
       rw [hX, if_neg (by have := hmns.out; simpa using this.symm), hxe.out]
      replace hX := hid hX
      have hXb : X < 10000000 := by omega
      have hXb2 : 0 ≤ X := by omega
      rw [hx8]
      clear hx8 hx
      go_wp2_with fail
      refine bodyPost_ret (v := .tuple #[.agg #[.int .i64 k0, .bool m0, .slice ao n0 c0, .int .i64 b0, .int .i64 (p0 + X)], .int .i64 0, .int .i64 0]) ?_ rfl (hend.out _ rfl _ hBz.out)
      rw [results_cell_tmp2 rfl]
      have hload' := hload.out
      simp [asAddr, Result.andThen, hload']
     ·have hx8 : -(x : Int) = X := by
       rw [hX, if_pos (by have := hmns.out; simpa using this.symm), hxe.out]
      replace hX := hid hX
      have hXb : -10000000 < X := by omega
      have hXb2 : X ≤ 0 := by omega
      go_wp2_with fail
      refine bodyPost_ret (v := .tuple #[.agg #[.int .i64 k0, .bool m0, .slice ao n0 c0, .int .i64 b0, .int .i64 (p0 + X)], .int .i64 0, .int .i64 0]) ?_ rfl (hend.out _ rfl _ hBz.out)
      rw [results_cell_tmp2 rfl]
      have hload' := hload.out
      simp [asAddr, Result.andThen, hload']
end
end Go.Proofs.YtlgneiaenanfaaaGreatDoor
