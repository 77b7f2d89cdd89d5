/- Walks and plain laws, merged: FqK FrA FrB. No condition. -/
import Derived.Test.YtlgneiaenanfaaaGreatDoorKq09
import Derived.Test.YtlgneiaenanfaaaGreatDoorKq04
import Derived.Test.YtlgneiaenanfaaaGreatDoorProg
import Derived.OwnWalk
import Derived.IntWalk
namespace Go.Proofs.YtlgneiaenanfaaaGreatDoor
open Go.RowKit
set_option linter.unusedVariables false
set_option linter.unusedSimpArgs false
set_option maxRecDepth 100000
set_option maxHeartbeats 64000000
set_option exponentiation.threshold 70000
section
set_option maxRecDepth 100000
open Go
theorem nat_dm (P a : Nat) : P * (a % 4294967296) + P * 4294967296 * (a / 4294967296) = P * a := by
 rw [Nat.mul_assoc, ← Nat.mul_add, Nat.mod_add_div]
theorem natL_take_succ {l : List Int} {i x : Nat} (hi : i < l.length) (hx : l[i] = (x : Int)) : natL (l.take (i + 1)) = natL (l.take i) + 4294967296 ^ i * x := by
 rw [List.take_succ_eq_append_getElem hi, natL_snoc, List.length_take, Nat.min_eq_left (by omega), hx, Int.toNat_natCast]
theorem tm_step {o l : List Int} {i m c cy x : Nat} (hi : i < l.length) (ho : o.length = i) (h : natL o + 4294967296 ^ i * cy = natL (l.take i) * m + c) (hx : l[i] = (x : Int)) :
  natL (o ++ [(((cy + x * m) % 4294967296 : Nat) : Int)]) + 4294967296 ^ (i + 1) * ((cy + x * m) / 4294967296) = natL (l.take (i + 1)) * m + c := by
 rw [natL_snoc, ho, natL_take_succ hi hx, Nat.pow_succ, Int.toNat_natCast, Nat.add_assoc, nat_dm, Nat.mul_add, ← Nat.add_assoc, h, Nat.add_mul, Nat.mul_assoc]
 omega
theorem tm_end {o l : List Int} {m c cy : Nat} (ho : o.length = l.length) (h : natL o + 4294967296 ^ l.length * cy = natL (l.take l.length) * m + c) : natL (o ++ [(cy : Int)]) = natL l * m + c := by
 rw [natL_snoc, ho, Int.toNat_natCast, h, List.take_length]
theorem tm_bd {cy x m : Nat} (h1 : cy < 4294967296) (h2 : x < 4294967296) (h3 : m < 4294967296) : cy + x * m < 18446744073709551616 ∧ (cy + x * m) / 4294967296 < 4294967296 := by
 have h4 : x * m ≤ 4294967295 * 4294967295 := Nat.mul_le_mul (by omega) (by omega)
 omega
theorem pl_step {o a b : List Int} {i cy x y : Nat} (hi : i < a.length) (ho : o.length = i) (h : natL o + 4294967296 ^ i * cy = natL (a.take i) + natL (b.take i)) (hx : a[i] = (x : Int)) (hy : (∃ hb : i < b.length, b[i] = (y : Int)) ∨ (b.length ≤ i ∧ y = 0)) :
  natL (o ++ [(((cy + x + y) % 4294967296 : Nat) : Int)]) + 4294967296 ^ (i + 1) * ((cy + x + y) / 4294967296) = natL (a.take (i + 1)) + natL (b.take (i + 1)) := by
 have hb : natL (b.take (i + 1)) = natL (b.take i) + 4294967296 ^ i * y := by
  rcases hy with ⟨hb, hy⟩ | ⟨hb, rfl⟩
  ·exact natL_take_succ hb hy
  ·rw [List.take_of_length_le (by omega), List.take_of_length_le hb, Nat.mul_zero, Nat.add_zero]
 rw [natL_snoc, ho, natL_take_succ hi hx, hb, Nat.pow_succ, Int.toNat_natCast, Nat.add_assoc, nat_dm, Nat.mul_add, Nat.mul_add, ← Nat.add_assoc, ← Nat.add_assoc, h]
 omega
theorem pl_end {A B cy : Nat} {o : List Int} (ho : o.length = (limbs A).length) (hl : Lb o) (hB : (limbs B).length ≤ (limbs A).length) (h : natL o + 4294967296 ^ (limbs A).length * cy = natL ((limbs A).take (limbs A).length) + natL ((limbs B).take (limbs A).length)) (hcy : cy ≤ 1) :
  (cy = 1 → o ++ [1] = limbs (A + B)) ∧ (cy = 0 → o = limbs (A + B)) := by
 rw [List.take_length, List.take_of_length_le hB, natL_limbs, natL_limbs] at h
 refine ⟨fun h1 => ?_, fun h0 => ?_⟩
 ·subst h1
  have hn : natL (o ++ [1]) = A + B := by rw [natL_snoc, ho]; simpa using h
  rw [← hn]
  exact (limbs_natL (hl.snoc (by decide)) (fun x hx => by simp at hx; omega)).symm
 ·subst h0
  have hn : natL o = A + B := by simpa using h
  rw [← hn]
  refine (limbs_natL hl (fun x hx hx0 => ?_)).symm
  obtain ⟨r, e⟩ := List.getLast?_eq_some_iff.1 hx
  have hlr : Lb r := fun y hy => hl y (by rw [e]; simp [hy])
  have h1 := natL_lt hlr
  have h2 : natL o = natL r := by rw [e, natL_snoc, hx0]; simp
  have h3 : r.length + 1 = (limbs A).length := by rw [← ho, e]; simp
  have h4 := limbs_low (k := r.length) (n := A) (by omega)
  omega
theorem limbs_shift {n : Nat} (h : n ≠ 0) : limbs (4294967296 * n) = 0 :: limbs n := by
 rw [limbs_pos (by omega), Nat.mul_mod_right, Nat.mul_div_cancel_left _ (by decide)]
 rfl
theorem limbs_zeros {n : Nat} (h : n ≠ 0) : ∀ k, limbs (4294967296 ^ k * n) = List.replicate k 0 ++ limbs n
 | 0 => by simp
 | k + 1 => by
  have h1 : 4294967296 ^ k * n ≠ 0 := Nat.mul_ne_zero (Nat.pos_iff_ne_zero.1 (Nat.pow_pos (by decide))) h
  rw [Nat.pow_succ, Nat.mul_comm (4294967296 ^ k), Nat.mul_assoc, limbs_shift h1, limbs_zeros h k]
  rfl
theorem natL_drop {l : List Int} {i x : Nat} (hi : i < l.length) (hx : l[i] = (x : Int)) : natL (l.drop i) = x + 4294967296 * natL (l.drop (i + 1)) := by
 rw [List.drop_eq_getElem_cons hi, natL_cons, hx, Int.toNat_natCast]
theorem dc_step {l nx : List Int} {i rest x : Nat} (hi : i < l.length) (hx : l[i] = (x : Int)) (h : natL (l.drop (i + 1)) = 10 * natL nx + rest) :
  natL (l.drop i) = 10 * natL ((((rest * 4294967296 + x) / 10 : Nat) : Int) :: nx) + (rest * 4294967296 + x) % 10 := by
 rw [natL_drop hi hx, h, natL_cons, Int.toNat_natCast]
 omega
def decL (n : Nat) : List Int := if h : n = 0 then [] else decL (n / 10) ++ [((48 + n % 10 : Nat) : Int)]
theorem decL_zero : decL 0 = [] := by rw [decL]; simp
theorem decL_pos {n : Nat} (h : n ≠ 0) : decL n = decL (n / 10) ++ [((48 + n % 10 : Nat) : Int)] := by rw [decL]; simp [h]
theorem decL_len : ∀ n : Nat, n ≠ 0 → 1 ≤ (decL n).length ∧ 10 ^ ((decL n).length - 1) ≤ n ∧ n < 10 ^ (decL n).length := by
 intro n
 induction n using Nat.strongRecOn with
 | _ n ih =>
  intro h
  rw [decL_pos h, List.length_append, List.length_singleton]
  by_cases h0 : n / 10 = 0
  ·rw [h0, decL_zero]
   simp
   omega
  ·obtain ⟨h1, h2, h3⟩ := ih (n / 10) (by omega) h0
   obtain ⟨k, hk⟩ : ∃ k, (decL (n / 10)).length = k + 1 := ⟨_, (Nat.succ_pred_eq_of_pos h1).symm⟩
   rw [hk] at h2 h3 ⊢
   rw [show k + 1 - 1 = k by omega] at h2
   rw [show k + 1 + 1 - 1 = k + 1 by omega, Nat.pow_succ, Nat.pow_succ 10 (k + 1)]
   generalize 10 ^ k = T at *
   rw [Nat.pow_succ] at h3
   omega
theorem decL_mem : ∀ n : Nat, ∀ c ∈ decL n, 48 ≤ c ∧ c ≤ 57 := by
 intro n
 induction n using Nat.strongRecOn with
 | _ n ih =>
  intro c hc
  by_cases h : n = 0
  ·subst h; rw [decL_zero] at hc; simp at hc
  ·rw [decL_pos h, List.mem_append, List.mem_singleton] at hc
   rcases hc with hc | rfl
   ·exact ih (n / 10) (by omega) c hc
   ·omega
def BitN (n k : Nat) : Prop := (n = 0 → k = 0) ∧ (n ≠ 0 → 1 ≤ k ∧ 2 ^ (k - 1) ≤ n ∧ n < 2 ^ k)
theorem bits_top {n j top : Nat} {r : List Int} (hn : limbs n = r ++ [(top : Int)]) (h0 : top ≠ 0) (h1 : top < 2 ^ j) (h2 : 1 ≤ j) (h3 : 2 ^ (j - 1) ≤ top) : BitN n (32 * r.length + j) := by
 have hv : n = natL r + 4294967296 ^ r.length * top := by rw [← natL_limbs n, hn, natL_snoc, Int.toNat_natCast]
 have hr : natL r < 4294967296 ^ r.length := natL_lt (fun x hx => limbs_Lb n x (by rw [hn]; simp [hx]))
 have hp : 4294967296 ^ r.length = 2 ^ (32 * r.length) := by rw [Nat.pow_mul]
 rw [hp] at hv hr
 have hT : 0 < 2 ^ (32 * r.length) := Nat.pow_pos (by decide)
 refine ⟨fun h => ?_, fun _ => ⟨by omega, ?_, ?_⟩⟩
 ·exfalso
  have : 2 ^ (32 * r.length) * 1 ≤ 2 ^ (32 * r.length) * top := Nat.mul_le_mul_left _ (by omega)
  omega
 ·rw [show 32 * r.length + j - 1 = 32 * r.length + (j - 1) by omega, Nat.pow_add]
  have := Nat.mul_le_mul_left (2 ^ (32 * r.length)) h3
  omega
 ·rw [Nat.pow_add]
  have : 2 ^ (32 * r.length) * (top + 1) ≤ 2 ^ (32 * r.length) * 2 ^ j := Nat.mul_le_mul_left _ (by omega)
  rw [Nat.mul_add, Nat.mul_one] at this
  omega
theorem cmp_at {A B k x y : Nat} (hl : (limbs A).length = (limbs B).length) (h1 : k < (limbs A).length) (h2 : k < (limbs B).length) (hd : (limbs A).drop (k + 1) = (limbs B).drop (k + 1)) (hx : (limbs A)[k] = (x : Int)) (hy : (limbs B)[k] = (y : Int)) :
  (x < y → cmpN A B = -1) ∧ (y < x → cmpN A B = 1) := by
 constructor
 ·intro h
  have := natL_less (limbs_Lb A) (limbs_Lb B) h1 h2 hd (by rw [hx, hy]; omega)
  rw [natL_limbs, natL_limbs] at this
  unfold cmpN
  rw [if_pos this]
 ·intro h
  have := natL_less (limbs_Lb B) (limbs_Lb A) h2 h1 hd.symm (by rw [hx, hy]; omega)
  rw [natL_limbs, natL_limbs] at this
  unfold cmpN
  rw [if_neg (by omega), if_pos this]
theorem limbs_inj {A B : Nat} (h : limbs A = limbs B) : A = B := by rw [← natL_limbs A, h, natL_limbs]
theorem cmp_short {A B : Nat} (h : (limbs A).length < (limbs B).length) : cmpN A B = -1 ∧ cmpN B A = 1 := by
 have := limbs_shorter h
 unfold cmpN
 rw [if_pos this, if_neg (by omega), if_pos this]
 exact ⟨rfl, rfl⟩
theorem cmp_same (A : Nat) : cmpN A A = 0 := by
 unfold cmpN
 rw [if_neg (by omega), if_neg (by omega)]
end
section
set_option maxRecDepth 100000
open Go
def nv (l : List Int) : List Value := l.map (Value.int .u32)
theorem nv_len (l : List Int) : (nv l).length = l.length := List.length_map ..
theorem nv_app (a b : List Int) : nv (a ++ b) = nv a ++ nv b := List.map_append ..
def Nt (w : World) (v : Value) (N : Nat) : Prop := w.ownsRow 0 34 1 v (limbs N).length (nv (limbs N))
theorem Nt.mono {w w' : World} {v : Value} {N B : Nat} (h : Nt w v N) (hb : Below B w w') (hB : w.heap.size ≤ B) : Nt w' v N := own_mono h hb hB
theorem Nt.drewN {w : World} {v : Value} {N : Nat} (h : Nt w v N) (q : Nat) : Nt (w.drewN q) v N := h
theorem Nt.drew {w : World} {v : Value} {N : Nat} (h : Nt w v N) : Nt w.drew v N := h
theorem Nt.alloc {w : World} {v : Value} {N : Nat} (h : Nt w v N) (o : Obj) : Nt (w.alloc o) v N := World.ownsRow.alloc h o
def Sm (N : Nat) : Prop := (limbs N).length ≤ 2000
theorem Sm_of {N k : Nat} (h : N < 2 ^ k) (hk : k ≤ 60000) : Sm N := by
 have h1 : N < 4294967296 ^ 1900 := by
  rw [show (4294967296 : Nat) = 2 ^ 32 from rfl, ← Nat.pow_mul]
  exact Nat.lt_of_lt_of_le h (Nat.pow_le_pow_right (by decide) (by omega))
 have := limbs_len h1
 unfold Sm
 omega
theorem wf_limb {l : List Int} (h : Lb l) : ∀ x ∈ l, (Lit.int .u32 x).wf = true := fun x hx => wf_u32.2 ⟨(h x hx).1, by have := (h x hx).2; omega⟩
theorem Nt.open {w : World} {v : Value} {N : Nat} (h : Nt w v N) : ∃ (ao : Option Addr) (cap b off : Nat), v = .slice ao (limbs N).length cap ∧ (limbs N).length ≤ cap ∧ cap ≤ maxLen ∧ ((limbs N).length ≤ 0 ∨ ao = some ⟨b, off, none⟩) ∧ Hid (∀ i, i < (limbs N).length → w.cell? ⟨b, off + i, none⟩ = some (.int .u32 ((limbs N).getD i 0))) := by
 obtain ⟨ao, cap, e, hi, _, hcap, hmax⟩ := ints_of_own h (wf_limb (limbs_Lb N))
 obtain ⟨b, off, hao, hc⟩ := hi.at
 exact ⟨ao, cap, b, off, e, hcap, hmax, hao, hc⟩
theorem limb_at {l : List Int} (h : Lb l) {k : Nat} (hk : k < l.length) : ∃ x : Nat, l.getD k 0 = (x : Int) ∧ l[k] = (x : Int) ∧ x < 4294967296 := by
 have h1 := h l[k] (List.getElem_mem hk)
 refine ⟨l[k].toNat, ?_, ?_, ?_⟩
 ·have : l.getD k 0 = l[k] := by simp [List.getD, hk]
  omega
 ·omega
 ·omega
theorem nt_cut {w : World} {base n cap k R : Nat} {ao : Option Addr} {o : List Int} (h : w.ownsRow base 34 1 (.slice ao n cap) n (nv o)) (hao : n = 0 ∨ ∃ g, ao = some ⟨g, 0, none⟩) (ho : o.length = n) (hL : Lb o) (hR : natL o = R) (hk : k ≤ n) (hz : ∀ j, k ≤ j → (hj : j < o.length) → o[j] = 0) (ht : k = 0 ∨ ∃ hk : k - 1 < o.length, o[k - 1] ≠ 0) : Nt w (.slice ao k cap) R := by
 have hc := limbs_cut hL (by omega) hz ht
 rw [hR] at hc
 have hlen : (limbs R).length = k := by rw [← hc, List.length_take]; omega
 unfold Nt
 rw [hlen, ← hc]
 rcases hao with h0 | ⟨g, rfl⟩
 ·subst h0
  obtain rfl : k = 0 := by omega
  have : o = [] := List.eq_nil_of_length_eq_zero ho
  subst this
  exact own_base h (Nat.zero_le _)
 ·have h2 := own_take h hk
  unfold nv at *
  rw [List.map_take]
  exact own_base h2 (Nat.zero_le _)
theorem info34 : (Tryz.prog.info? 34).map (fun i => (i.zero, i.size, i.bytes)) = some (some (.int .u32 0), 1, 4) := by kernel_rfl
theorem under53 : Tryz.prog.underlying 53 = some (.slice 34) := by kernel_rfl
theorem own_any {w : World} {base : Nat} {e : TypeId} {size : Nat} {v : Value} {n : Nat} {xs : List Value} (h : w.ownsRow base e size v n xs) : ∃ ao cap, v = .slice ao n cap ∧ n ≤ cap ∧ cap ≤ maxLen ∧ (n = 0 ∨ ∃ g, ao = some ⟨g, 0, none⟩) := by
 obtain ⟨h1, h2⟩ := h
 rcases h2 with ⟨hv, h2⟩ | ⟨g, cap, cur, hv, hg, hh, a, b, c⟩
 ·exact ⟨none, 0, by rw [hv, h2], by omega, by unfold maxLen; omega, .inl h2⟩
 ·exact ⟨_, cap, hv, a, b, .inr ⟨g, rfl⟩⟩
def NtR (w : World) (N : Nat) (e : Ending) (w' : World) : Prop := ∃ v, e = .returned v ∧ Nt w' v N ∧ Below w.heap.size w w'
structure TM (w wr : World) (l : List Int) (m c : Nat) (v : Value) (k cy : Nat) (o : List Int) : Prop where
 own : wr.ownsRow w.heap.size 34 1 v k (nv o)
 len : o.length = k
 lb : Lb o
 eq : natL o + 4294967296 ^ k * cy = natL (l.take k) * m + c
 cy : cy < 4294967296
 be : Below w.heap.size w wr
theorem int_nat {k : IntKind} {a : Nat} {x : Int} (h : x = (a : Int)) : Value.int k x = .int k (a : Int) := by rw [h]
theorem times84 (A m c : Nat) (hm : m < 4294967296) (hcc : c < 4294967296) (hA : Sm A) (v : Value) (w : World) (hv : Nt w v A) :
    Calls Tryz.prog 84 #[v, .int .u32 m, .int .u32 c] w (NtR w (A * m + c)) := by
  obtain ⟨ao, cap, b, off, rfl, hcap, hmax, hao, hc⟩ := hv.open
  clear hv
  unfold Sm at hA
  obtain ⟨l, hl⟩ : ∃ l, l = limbs A := ⟨_, rfl⟩
  rw [← hl] at hA hcap hao hc ⊢
  have hlb : Lb l := by rw [hl]; exact limbs_Lb A
  have hAv := hid (show natL l = A by rw [hl, natL_limbs])
  clear hl
  replace hlb := hid hlb
  unfold maxLen at hmax
  obtain ⟨n, hn⟩ : ∃ n, n = l.length := ⟨_, rfl⟩
  rw [← hn] at hA hcap hao hc ⊢
  replace hn := hid hn
  go_enter Tryz.func84, Tryz.ntmps84
  go_wp2
  go_loopw [7, 8, 9] (fun v cy i wr => ∃ (k cyN : Nat) (o : List Int), i = .int .i64 k ∧ cy = .int .u64 cyN ∧ k ≤ n ∧ Hid (TM w wr l m c v k cyN o)) (fun _ _ i _ => n - (intOf i).toNat)
  case atStart => exact ⟨0, c, [], rfl, rfl, Nat.zero_le _, hid ⟨World.ownsRow_nil _ _ _ _, rfl, fun x hx => by simp at hx, by simp [natL], hcc, Below.refl _ _⟩⟩
  case round =>
    obtain ⟨k, cy, o, rfl, rfl, hk, hT⟩ := hrel
    have hcy := hT.out.cy
    have hsz := hT.out.be.size
    have hown := hT.out.own
    by_cases hlt : k < n
    · rcases hao with hn0 | rfl
      · omega
      obtain ⟨x, hx1, hx2, hx3⟩ := limb_at hlb.out (show k < l.length by rw [← hn.out]; exact hlt)
      have hcell := hc.out k hlt
      have hcell' := (hT.out.be.cell (World.block_lt_of_cell? w _ hcell)).trans hcell
      rw [hx1] at hcell'
      have hbd := tm_bd hcy hx3 hm
      obtain ⟨cy2, hcy2⟩ : ∃ cy2, cy2 = cy + x * m := ⟨_, rfl⟩
      have hcyi : IntKind.u64.wrap ((cy : Int) + (x : Int) * (m : Int)) = (cy2 : Int) := by
        rw [← Int.natCast_mul, ← Int.natCast_add, ← hcy2]
        exact IntWalk.u64_in _ (by omega)
      have hmi : IntKind.u64.wrap ((x : Int) * (m : Int)) = (x : Int) * (m : Int) := by
        rw [← Int.natCast_mul]
        exact IntWalk.u64_in _ (by have : x * m ≤ cy2 := by omega
                                   omega)
      have hst := tm_step (o := o) (i := k) (m := m) (c := c) (cy := cy) (x := x) (show k < l.length by rw [← hn.out]; exact hlt) hT.out.len hT.out.eq hx2
      rw [← hcy2] at hst hbd
      have hlow : ((cy2 % 4294967296 : Nat) : Int) = IntKind.u32.wrap (cy2 : Int) := by rw [IntKind.wrap_u32]; omega
      have hst' := hid hst
      have hcy2' := hid hcy2
      clear hst hcy2 hcell hx1 hx2
      go_wp2_with (at_builtin; go_must (refine wpList_append_new rfl _ _ 53 rfl w.heap.size 34 34 (.int .u32 0) 1 4 1 under53 info34 rfl (by decide) _ k _ [.int .u32 ((cy2 % 4294967296 : Nat) : Int)] (0, 0) hown rfl (by simp [Value.oneCell']) (by unfold maxLen; omega) (by omega) hsz rfl rfl ?_); intro v' w1 hown' hb' _)
      go_roundw
      case rel => exact ⟨k + 1, cy2 / 4294967296, o ++ [((cy2 % 4294967296 : Nat) : Int)], by go_num, rfl, by omega, hid ⟨by rw [nv_app]; exact hown', by rw [List.length_append, hT.out.len]; rfl, hT.out.lb.snoc ⟨by omega, by omega⟩, hst'.out, hbd.2, hT.out.be.trans hb'⟩⟩
      case measure => simp [intOf]; omega
    · obtain rfl : k = n := by omega
      have hend := tm_end (o := o) (l := l) (m := m) (c := c) (cy := cy) (by rw [hT.out.len, hn.out]) (by rw [← hn.out]; exact hT.out.eq)
      rw [hAv.out] at hend
      have hB := hid hT.out.be
      by_cases h0 : cy = 0
      · subst h0
        have hend2 : natL o = A * m + c := by rw [natL_snoc] at hend; simpa using hend
        have hend' := hid hend2
        have hlo := hid hT.out.len
        have hLo := hid hT.out.lb
        clear hend hend2 hT hcy hao hc hlt hn
        obtain ⟨nn, hnn⟩ : ∃ nn, nn = k := ⟨_, rfl⟩
        rw [← hnn] at hlo hown
        obtain ⟨ao7, cap7, rfl, hca7, hma7, hao7⟩ := own_any hown
        unfold maxLen at hma7
        have hown7 := hid hown
        have hnk := hid hnn
        clear hnn hown
        go_wp2
        go_loop [10] (fun i => ∃ j : Nat, i = .int .i64 j ∧ j ≤ nn ∧ Hid (∀ q, j ≤ q → (hq : q < (o).length) → (o)[q] = 0)) (fun i => (intOf i).toNat)
        case atStart => exact ⟨nn, by first | rfl | go_num, Nat.le_refl _, hid (fun q h1 h2 => by have := hlo.out; omega)⟩
        case round =>
          obtain ⟨j, rfl, hj, hz⟩ := hrel
          by_cases hj0 : j = 0
          · subst hj0
            have hfin := hid (nt_cut hown7.out hao7 hlo.out hLo.out hend'.out hj hz.out (Or.inl rfl))
            go_wp2
            go_ret
            exact ⟨_, rfl, hfin.out, hB.out⟩
          · rcases hao7 with h77 | ⟨g7, rfl⟩
            · omega
            obtain ⟨x, hx1, hx2, hx3⟩ := limb_at hLo.out (show j - 1 < (o).length by have := hlo.out; omega)
            have hcx : wr.cell? ⟨g7, j - 1, none⟩ = some (.int .u32 (x : Int)) := by
              rw [hown7.out.cellAt (j - 1) (by omega), ← hx2]
              unfold nv
              rw [List.getElem?_map, List.getElem?_eq_getElem (show j - 1 < (o).length by have := hlo.out; omega)]
              rfl
            have hji : ((j : Int) - 1).toNat = j - 1 := by omega
            have hj1 : ¬ (j : Int) ≤ 0 := by omega
            have hj2 : 0 < j := by omega
            have hjm : ((j : Int) - 1) = ((j - 1 : Nat) : Int) := by omega
            by_cases hx0 : x = 0
            · have hz2 := hid (show ∀ q, j - 1 ≤ q → (hq : q < (o).length) → (o)[q] = 0 from fun q h1 h2 => by
                by_cases hq : q = j - 1
                · subst hq; rw [hx2, hx0]; rfl
                · exact hz.out q (by omega) h2)
              have hjm' := hid hjm
              clear hx1 hx2 hjm
              subst hx0
              go_wp2
              go_round
              case rel => exact ⟨j - 1, val_int hjm'.out, by omega, hz2⟩
              case measure => simp [intOf]; omega
            · have hx0' : ((x : Int) == 0) = false := by simpa using hx0
              have hfin := hid (nt_cut hown7.out (Or.inr ⟨g7, rfl⟩) hlo.out hLo.out hend'.out hj hz.out (Or.inr ⟨by have := hlo.out; omega, by rw [hx2]; omega⟩))
              clear hx1 hx2 hjm hx0
              go_wp2
              go_ret
              exact ⟨_, rfl, hfin.out, hB.out⟩
      · have hend' := hid hend
        have hlo := hid (show (o ++ [(cy : Int)]).length = k + 1 by rw [List.length_append, hT.out.len]; rfl)
        have hLo := hid (hT.out.lb.snoc (x := (cy : Int)) ⟨by omega, by omega⟩)
        have hcyw : IntKind.u32.wrap (cy : Int) = (cy : Int) := by rw [IntKind.wrap_u32]; omega
        have hnc : 0 < cy := by omega
        have hnil : 1 ≠ 0 := by decide
        clear hend hT hao hc hlt hn h0
        go_wp2_with (at_builtin; go_must (refine wpList_append_new rfl _ _ 53 rfl w.heap.size 34 34 (.int .u32 0) 1 4 1 under53 info34 rfl (by decide) _ k _ [.int .u32 (cy : Int)] (0, 0) hown rfl (by simp [Value.oneCell']) (by unfold maxLen; omega) (by omega) hsz rfl rfl ?_); intro v' w1 hown' hb' _; obtain ⟨ao7, cap7, rfl, hca7, hma7, hao7⟩ := own_any hown'; unfold maxLen at hma7; have hown7 := hid hown'; clear hown')
        refine (show Hid _ → _ from fun hown7 => ?_) (hid (show w1.ownsRow w.heap.size 34 1 _ (k + 1) (nv (o ++ [(cy : Int)])) by rw [nv_app]; exact hown7))
        go_loop [10] (fun i => ∃ j : Nat, i = .int .i64 j ∧ j ≤ k + 1 ∧ Hid (∀ q, j ≤ q → (hq : q < (o ++ [(cy : Int)]).length) → (o ++ [(cy : Int)])[q] = 0)) (fun i => (intOf i).toNat)
        case atStart => exact ⟨k + 1, by first | rfl | go_num, Nat.le_refl _, hid (fun q h1 h2 => by have := hlo.out; omega)⟩
        case round =>
          obtain ⟨j, rfl, hj, hz⟩ := hrel
          by_cases hj0 : j = 0
          · subst hj0
            have hfin := hid (nt_cut hown7.out hao7 hlo.out hLo.out hend'.out hj hz.out (Or.inl rfl))
            go_wp2
            go_ret
            exact ⟨_, rfl, hfin.out, hB.out.trans hb'⟩
          · rcases hao7 with h77 | ⟨g7, rfl⟩
            · omega
            obtain ⟨x, hx1, hx2, hx3⟩ := limb_at hLo.out (show j - 1 < (o ++ [(cy : Int)]).length by have := hlo.out; omega)
            have hcx : w1.cell? ⟨g7, j - 1, none⟩ = some (.int .u32 (x : Int)) := by
              rw [hown7.out.cellAt (j - 1) (by omega), ← hx2]
              unfold nv
              rw [List.getElem?_map, List.getElem?_eq_getElem (show j - 1 < (o ++ [(cy : Int)]).length by have := hlo.out; omega)]
              rfl
            have hji : ((j : Int) - 1).toNat = j - 1 := by omega
            have hj1 : ¬ (j : Int) ≤ 0 := by omega
            have hj2 : 0 < j := by omega
            have hjm : ((j : Int) - 1) = ((j - 1 : Nat) : Int) := by omega
            by_cases hx0 : x = 0
            · have hz2 := hid (show ∀ q, j - 1 ≤ q → (hq : q < (o ++ [(cy : Int)]).length) → (o ++ [(cy : Int)])[q] = 0 from fun q h1 h2 => by
                by_cases hq : q = j - 1
                · subst hq; rw [hx2, hx0]; rfl
                · exact hz.out q (by omega) h2)
              have hjm' := hid hjm
              clear hx1 hx2 hjm
              subst hx0
              go_wp2
              go_round
              case rel => exact ⟨j - 1, val_int hjm'.out, by omega, hz2⟩
              case measure => simp [intOf]; omega
            · have hx0' : ((x : Int) == 0) = false := by simpa using hx0
              have hfin := hid (nt_cut hown7.out (Or.inr ⟨g7, rfl⟩) hlo.out hLo.out hend'.out hj hz.out (Or.inr ⟨by have := hlo.out; omega, by rw [hx2]; omega⟩))
              clear hx1 hx2 hjm hx0
              go_wp2
              go_ret
              exact ⟨_, rfl, hfin.out, hB.out.trans hb'⟩
end
section
set_option maxRecDepth 100000
open Go
theorem limbs_eq_of_drop {A B : Nat} (h : (limbs A).drop 0 = (limbs B).drop 0) : cmpN A B = 0 := by
 rw [List.drop_zero, List.drop_zero] at h
 rw [limbs_inj h]
 exact cmp_same B
theorem drop_step {a b : List Int} {k : Nat} (h1 : k < a.length) (h2 : k < b.length) (hd : a.drop (k + 1) = b.drop (k + 1)) (hx : a[k] = b[k]) : a.drop k = b.drop k := by
 rw [List.drop_eq_getElem_cons h1, List.drop_eq_getElem_cons h2, hx, hd]
theorem cmp83 (A B : Nat) (hA : Sm A) (hB : Sm B) (v u : Value) (w : World) (hv : Nt w v A) (hu : Nt w u B) :
  Calls Tryz.prog 83 #[v, u] w fun e w' => e = .returned (.int .i64 (cmpN A B)) ∧ Below w.heap.size w w' := by
 obtain ⟨ao, cap, b, off, rfl, hcap, hmax, hao, hc⟩ := hv.open
 obtain ⟨bo, cap2, b2, off2, rfl, hcap2, hmax2, hbo, hc2⟩ := hu.open
 clear hv hu
 unfold Sm at hA hB
 unfold maxLen at hmax hmax2
 obtain ⟨c, hcm⟩ : ∃ c, c = cmpN A B := ⟨_, rfl⟩
 rw [← hcm]
 obtain ⟨n, hn⟩ : ∃ n, n = (limbs A).length := ⟨_, rfl⟩
 obtain ⟨m, hm⟩ : ∃ m, m = (limbs B).length := ⟨_, rfl⟩
 rw [← hn] at hA hcap hao hc ⊢
 rw [← hm] at hB hcap2 hbo hc2 ⊢
 rcases Nat.lt_trichotomy n m with hlt | heq | hgt
 ·obtain rfl : c = -1 := by rw [hcm]; exact (cmp_short (by omega)).1
  clear hc hc2 hn hm hao hbo hcm
  go_enter Tryz.func83, Tryz.ntmps83
  go_wp2
  go_ret
  exact ⟨rfl, Below.refl _ _⟩
 ·subst heq
  replace hn := hid hn
  replace hm := hid hm
  replace hcm := hid hcm
  go_enter Tryz.func83, Tryz.ntmps83
  go_wp2
  go_loopw [5] (fun i wr => ∃ k : Nat, i = .int .i64 ((k : Int) - 1) ∧ k ≤ n ∧ Hid ((limbs A).drop k = (limbs B).drop k) ∧ Below w.heap.size w wr) (fun i _ => (intOf i + 1).toNat)
  case atStart => exact ⟨n, rfl, Nat.le_refl _, hid (by rw [List.drop_of_length_le (by have := hn.out; omega), List.drop_of_length_le (by have := hm.out; omega)]), Below.refl _ _⟩
  case round =>
   obtain ⟨k, rfl, hk, hd, hb⟩ := hrel
   by_cases hk0 : k = 0
   ·subst hk0
    have hfin := hid (show c = 0 by rw [hcm.out]; exact limbs_eq_of_drop hd.out)
    go_wp2
    go_ret
    exact ⟨by rw [hfin.out]; rfl, hb⟩
   ·obtain ⟨j, rfl⟩ : ∃ j, k = j + 1 := ⟨k - 1, by omega⟩
    have hj1 : j < (limbs A).length := by have := hn.out; omega
    have hj2 : j < (limbs B).length := by have := hm.out; omega
    obtain ⟨x, hx1, hx2, hx3⟩ := limb_at (limbs_Lb A) hj1
    obtain ⟨y, hy1, hy2, hy3⟩ := limb_at (limbs_Lb B) hj2
    rcases hao with h | rfl
    ·omega
    rcases hbo with h | rfl
    ·omega
    have cx := hc.out j (by omega)
    have cx' := (hb.cell (World.block_lt_of_cell? w _ cx)).trans cx
    have cy := hc2.out j (by omega)
    have cy' := (hb.cell (World.block_lt_of_cell? w _ cy)).trans cy
    rw [hx1] at cx'
    rw [hy1] at cy'
    have hcmp := cmp_at (A := A) (B := B) (by rw [← hn.out, ← hm.out]) hj1 hj2 hd.out hx2 hy2
    have hds := fun h : x = y => drop_step hj1 hj2 hd.out (by rw [hx2, hy2, h])
    have hji : ((j + 1 : Nat) : Int) - 1 = (j : Int) := by omega
    have hjs : (((j + 1 : Nat) : Int) - 1 + 1).toNat = j + 1 := by omega
    rw [hji]
    have hnn : n ≠ 0 := by omega
    clear cx cy hx1 hy1 hx2 hy2 hj1 hj2 hk0 hji
    rcases Nat.lt_trichotomy x y with hlt | heq | hgt
    ·obtain rfl : c = -1 := by rw [hcm.out]; exact hcmp.1 hlt
     clear hcmp hds hjs
     go_wp2
     go_region
     go_wp2
     go_ret
     exact ⟨rfl, hb.drew⟩
    ·have hds' := hid (hds heq)
     subst heq
     clear hcmp hds
     replace hjs := hid hjs
     go_wp2
     go_region
     go_wp2
     go_region
     go_wp2
     go_roundw
     case rel => exact ⟨j, rfl, by omega, hds', hb.drew.drew⟩
     case measure => simp [intOf]
    ·obtain rfl : c = 1 := by rw [hcm.out]; exact hcmp.2 hgt
     clear hcmp hds hjs
     have hgt' : ¬ x < y := by omega
     go_wp2
     go_region
     go_wp2
     go_region
     go_wp2
     go_ret
     exact ⟨rfl, hb.drew.drew⟩
 ·obtain rfl : c = 1 := by rw [hcm]; exact (cmp_short (by omega)).2
  clear hc hc2 hn hm hao hbo hcm
  have hg' : ¬ n < m := by omega
  go_enter Tryz.func83, Tryz.ntmps83
  go_wp2
  go_ret
  exact ⟨rfl, Below.refl _ _⟩
theorem own_new {w : World} {e : TypeId} {xs : List Value} (hm : xs.length ≤ maxLen) : (w.alloc (.cells xs.toArray e)).ownsRow w.heap.size e 1 (.slice (some ⟨w.heap.size, 0, none⟩) xs.length xs.length) xs.length xs :=
 ⟨by omega, .inr ⟨w.heap.size, xs.length, xs.toArray, rfl, Nat.le_refl _, heap_alloc_new .., Nat.le_refl _, hm, by simp, by simp⟩⟩
theorem nat51 (x : Nat) (hx : x < 18446744073709551616) (w : World) : Calls Tryz.prog 51 #[.int .u64 x] w (NtR w x) := by
 have hxi : (x : Int) < 18446744073709551616 := by omega
 obtain ⟨o, ho⟩ : ∃ o : List Int, o = [((x : Int) % 4294967296), ((x : Int) / 4294967296)] := ⟨_, rfl⟩
 have hlb : Lb o := by
  rw [ho]
  intro y hy
  simp only [List.mem_cons, List.not_mem_nil, or_false] at hy
  rcases hy with rfl | rfl <;> omega
 have hnat : natL o = x := by rw [ho, natL_cons, natL_cons, show natL [] = 0 from rfl]; omega
 have hlen : o.length = 2 := by rw [ho]; rfl
 have hnv : nv o = [.int .u32 ((x : Int) % 4294967296), .int .u32 ((x : Int) / 4294967296)] := by rw [ho]; rfl
 have hown := own_new (w := w) (e := 34) (xs := nv o) (by rw [nv_len, hlen]; unfold maxLen; omega)
 rw [nv_len, hlen] at hown
 rw [hnv] at hown
 have hown2 : (w.alloc (.cells #[.int .u32 ((x : Int) % 4294967296), .int .u32 ((x : Int) / 4294967296)] 34)).ownsRow w.heap.size 34 1 (.slice (some ⟨w.heap.size, 0, none⟩) 2 2) 2 [.int .u32 ((x : Int) % 4294967296), .int .u32 ((x : Int) / 4294967296)] := hown
 have hcell : ∀ j (hj : j < 2), (w.alloc (.cells #[.int .u32 ((x : Int) % 4294967296), .int .u32 ((x : Int) / 4294967296)] 34)).cell? ⟨w.heap.size, j, none⟩ = some (.int .u32 (o[j]'(by omega))) := by
  intro j hj
  rw [hown2.cellAt j (by omega)]
  match j, hj with
  | 0, _ => simp [ho]
  | 1, _ => simp [ho]
 replace hnat := hid hnat
 replace hlb := hid hlb
 replace hlen := hid hlen
 replace hcell := hid hcell
 have ho' := hid ho
 clear ho
 replace hown2 := hid hown2
 have hnv' := hid hnv
 clear hnv hown
 have hbe : Below w.heap.size w (w.alloc (.cells #[.int .u32 ((x : Int) % 4294967296), .int .u32 ((x : Int) / 4294967296)] 34)) := (Below.refl _ _).alloc (Nat.le_refl _) _
 go_enter Tryz.func51, Tryz.ntmps51
 go_wp2
 obtain ⟨wr, hwr⟩ : ∃ wr, wr = w.alloc (.cells #[.int .u32 ((x : Int) % 4294967296), .int .u32 ((x : Int) / 4294967296)] 34) := ⟨_, rfl⟩
 rw [← hwr] at hcell hown2 hbe
 rw [← hwr]
 have hw' := hid hwr
 clear hwr
 go_loop [4] (fun i => ∃ j : Nat, i = .int .i64 j ∧ j ≤ 2 ∧ Hid (∀ q, j ≤ q → (hq : q < o.length) → o[q] = 0)) (fun i => (intOf i).toNat)
 case atStart => exact ⟨2, rfl, Nat.le_refl _, hid (fun q h1 h2 => by have := hlen.out; omega)⟩
 case round =>
  obtain ⟨j, rfl, hj, hz⟩ := hrel
  have hcut := fun (ht : j = 0 ∨ ∃ hk : j - 1 < o.length, o[j - 1] ≠ 0) => nt_cut (o := o) (R := x) (k := j) (by rw [hnv'.out]; exact hown2.out) (Or.inr ⟨_, rfl⟩) hlen.out hlb.out hnat.out hj hz.out ht
  by_cases hj0 : j = 0
  ·subst hj0
   have hfin := hid (hcut (Or.inl rfl))
   clear hcut
   go_wp2
   go_ret
   exact ⟨_, rfl, hfin.out, hbe⟩
  ·obtain ⟨y, hx1, hx2, hx3⟩ := limb_at hlb.out (show j - 1 < o.length by have := hlen.out; omega)
   have hcx := hcell.out (j - 1) (by omega)
   rw [hx2] at hcx
   have hji : ((j : Int) - 1).toNat = j - 1 := by omega
   have hj1 : ¬ (j : Int) ≤ 0 := by omega
   have hj2 : 0 < j := by omega
   have hjm : ((j : Int) - 1) = ((j - 1 : Nat) : Int) := by omega
   by_cases hx0 : y = 0
   ·have hz2 := hid (show ∀ q, j - 1 ≤ q → (hq : q < o.length) → o[q] = 0 from fun q h1 h2 => by
     by_cases hq : q = j - 1
     ·subst hq; rw [hx2, hx0]; rfl
     ·exact hz.out q (by omega) h2)
    have hjm' := hid hjm
    clear hx1 hx2 hjm hcut
    subst hx0
    go_wp2
    go_round
    case rel => exact ⟨j - 1, val_int hjm'.out, by omega, hz2⟩
    case measure => simp [intOf]; omega
   ·have hx0' : ((y : Int) == 0) = false := by simpa using hx0
    have hfin := hid (hcut (Or.inr ⟨by have := hlen.out; omega, by rw [hx2]; omega⟩))
    clear hx1 hx2 hjm hx0 hcut
    go_wp2
    go_ret
    exact ⟨_, rfl, hfin.out, hbe⟩
def BitR (w : World) (N : Nat) (e : Ending) (w' : World) : Prop := ∃ k : Nat, e = .returned (.int .i64 (k : Int)) ∧ BitN N k ∧ k ≤ 64032 ∧ w = w'
theorem bits102 (A : Nat) (hA : Sm A) (v : Value) (w : World) (hv : Nt w v A) : Calls Tryz.prog 102 #[v] w (BitR w A) := by
 obtain ⟨ao, cap, b, off, rfl, hcap, hmax, hao, hc⟩ := hv.open
 clear hv
 unfold Sm at hA
 unfold maxLen at hmax
 obtain ⟨n, hn⟩ : ∃ n, n = (limbs A).length := ⟨_, rfl⟩
 rw [← hn] at hA hcap hao hc ⊢
 by_cases h0 : n = 0
 ·have hA0 : A = 0 := limbs_nil.1 (List.eq_nil_of_length_eq_zero (by omega))
  have hfin := hid (show BitN A 0 from ⟨fun _ => rfl, fun h => absurd hA0 h⟩)
  clear hA0 hn hao hc
  subst h0
  go_enter Tryz.func102, Tryz.ntmps102
  go_wp2
  go_ret
  exact ⟨0, rfl, hfin.out, by omega, rfl⟩
 ·rcases hao with h | rfl
  ·omega
  obtain ⟨r, t, hrt, ht32⟩ : ∃ (r : List Int) (t : Nat), limbs A = r ++ [(t : Int)] ∧ t < 4294967296 := by
   obtain ⟨x, hx1, hx2, hx3⟩ := limb_at (limbs_Lb A) (show n - 1 < (limbs A).length by omega)
   refine ⟨(limbs A).take (n - 1), x, ?_, hx3⟩
   have h1 := List.take_succ_eq_append_getElem (show n - 1 < (limbs A).length by omega)
   rw [hx2, List.take_of_length_le (by omega)] at h1
   exact h1
  have hrl : r.length = n - 1 := by have := congrArg List.length hrt; simp at this; omega
  have ht0 : t ≠ 0 := by
   have := limbs_top A (t : Int) (by rw [hrt]; simp)
   omega
  have cx := hc.out (n - 1) (by omega)
  have hd : (limbs A).getD (n - 1) 0 = (t : Int) := by rw [hrt, ← hrl]; simp [List.getD]
  rw [hd] at cx
  have hji : ((n : Int) - 1).toNat = n - 1 := by omega
  have hn0 : ((n : Int) == 0) = false := by simpa using h0
  have hbt := hid (fun j h1 h2 h3 => bits_top (n := A) (j := j) hrt ht0 h1 h2 h3)
  have hn' := hid hn
  have hrt' := hid hrt
  have hrl' := hid hrl
  have hnp : 1 ≤ n := by omega
  have hmul : IntKind.i64.wrap (32 * ((n : Int) - 1)) = 32 * ((n : Int) - 1) := IntWalk.i64_in _ (by omega)
  clear hn hrt hrl hd hc h0
  go_enter Tryz.func102, Tryz.ntmps102
  go_wp2
  go_loop [3, 4] (fun i q => ∃ j y : Nat, i = .int .i64 (32 * ((n : Int) - 1) + j) ∧ q = .int .u32 y ∧ j ≤ 32 ∧ Hid (y = t / 2 ^ j ∧ (j = 0 ∨ 2 ^ (j - 1) ≤ t))) (fun _ q => (intOf q).toNat)
  case atStart => exact ⟨0, t, by simp, rfl, by omega, hid ⟨by simp, Or.inl rfl⟩⟩
  case round =>
   obtain ⟨j, y, rfl, rfl, hj, hy⟩ := hrel
   by_cases hy0 : y = 0
   ·have h1 : t < 2 ^ j := by
     have := hy.out.1
     rw [hy0] at this
     exact (Nat.div_eq_zero_iff_lt (Nat.pow_pos (by decide))).1 this.symm
    have h2 : 1 ≤ j := by
     apply Classical.byContradiction
     intro hc
     have : j = 0 := by omega
     rw [this] at h1
     omega
    have h3 : 2 ^ (j - 1) ≤ t := by
     rcases hy.out.2 with h | h
     ·omega
     ·exact h
    have hfin := hid (hbt.out j h1 h2 h3)
    rw [hrl'.out] at hfin
    have he : Hid ((32 * ((n : Int) - 1) + (j : Int)) = ((32 * (n - 1) + j : Nat) : Int)) := by have : Hid _ := hid (show (32 * ((n : Int) - 1) + (j : Int)) = ((32 * (n - 1) + j : Nat) : Int) by omega); exact this
    clear h1 h3
    subst hy0
    go_wp2
    go_ret
    exact ⟨32 * (n - 1) + j, by rw [← he.out]; rfl, hfin.out, by omega, rfl⟩
   ·have hty : 2 ^ j ≤ t := by
     apply Classical.byContradiction
     intro hc
     exact hy0 (by rw [hy.out.1]; exact Nat.div_eq_of_lt (by omega))
    have hj32 : j ≤ 31 := by
     apply Classical.byContradiction
     intro hc
     have : 2 ^ 32 ≤ 2 ^ j := Nat.pow_le_pow_right (by decide) (by omega)
     omega
    have hyn := hid (show y / 2 = t / 2 ^ (j + 1) ∧ (j + 1 = 0 ∨ 2 ^ (j + 1 - 1) ≤ t) from ⟨by rw [hy.out.1, Nat.pow_succ, Nat.div_div_eq_div_mul], Or.inr hty⟩)
    have hys : y < 4294967296 := by have h5 := hy.out.1; have h6 : t / 2 ^ j ≤ t := Nat.div_le_self _ _; omega
    have hyp : 0 < y := by omega
    clear hty hy0
    go_wp2
    go_round
    case rel => exact ⟨j + 1, y / 2, val_int (by omega), val_int (by omega), by omega, hyn⟩
    case measure => simp [intOf]; omega
end
end Go.Proofs.YtlgneiaenanfaaaGreatDoor
