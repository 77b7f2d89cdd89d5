/- Walks: the document's Exact. No condition. -/
import Derived.Test.YtjkgffehafaolaaDoorExB
namespace Go.Proofs.YtjkgffehafaolaaDoor
open Go.RowKit
set_option linter.unusedVariables false
set_option linter.unusedSimpArgs false

def hdB (d : Nat) : UInt8 := if d < 10 then UInt8.ofNat (48 + d) else UInt8.ofNat (87 + d)
/-- made to begin with its first bit -/
def nrm : Nat → Nat → Int → Nat × Int
  | 0, m, p => (m, p)
  | k + 1, m, p => if m < 4503599627370496 then nrm k (m * 2) (p - 1) else (m, p)
/-- hexadecimal digits as long as something is left -/
def hxs : Nat → Nat → List UInt8
  | 0, _ => []
  | k + 1, r => if r = 0 then [] else hdB (r / 281474976710656) :: hxs k (r % 281474976710656 * 16)
theorem nrm_lt {k m : Nat} {p : Int} (h : m < 4503599627370496) : nrm (k + 1) m p = nrm k (m * 2) (p - 1) := by simp only [nrm, h, if_true]
theorem nrm_ge {k m : Nat} {p : Int} (h : ¬ m < 4503599627370496) : nrm k m p = (m, p) := by cases k <;> simp only [nrm, h, if_false]
theorem hxs_pos {k r : Nat} (h : r ≠ 0) : hxs (k + 1) r = hdB (r / 281474976710656) :: hxs k (r % 281474976710656 * 16) := by simp only [hxs, h, if_false]
theorem hxs_nil {k : Nat} : hxs k 0 = [] := by cases k <;> simp [hxs]
theorem itoa_len {n : Int} (h0 : -1100 ≤ n) (h1 : n ≤ 1100) : (Lib.itoa n).length ≤ 5 := by
  have key : ∀ u : Nat, u ≤ 1100 → (Lib.decDigits u).length ≤ 4 := by
    intro u hu
    rw [Lib.decDigits]; split; (· simp)
    rw [Lib.decDigits]; split; (· simp)
    rw [Lib.decDigits]; split; (· simp)
    rw [Lib.decDigits]; split; (· simp)
    omega
  unfold Lib.itoa
  split
  · have := key n.natAbs (by omega); simp; omega
  · have := key n.toNat (by omega); omega
set_option maxRecDepth 100000 in
set_option maxHeartbeats 1000000 in
theorem number17 (x : Int) (h0 : -1100 ≤ x) (h1 : x ≤ 1100) (w : World) : Calls Tryd.prog 17 #[.int .i64 x] w fun e w' => e = .returned (.string ⟨(Lib.itoa x).toArray⟩) ∧ Below w.heap.size w w' := by
  by_cases hx : x < 0
  · obtain ⟨u, rfl⟩ : ∃ u : Nat, x = -(u : Int) := ⟨x.natAbs, by omega⟩
    have hw : IntKind.u64.wrap (u : Int) = u := by rw [IntKind.wrap_u64]; omega
    have hi : Lib.itoa (-(u : Int)) = 45 :: Lib.decDigits u := by unfold Lib.itoa; rw [if_pos hx]; simp
    have c := hid (nat27 u (by omega) w)
    have hl := hid (show (Lib.decDigits u).length ≤ 5 by have := itoa_len h0 h1; rw [hi] at this; simp at this; omega)
    have hu := hid (show u ≤ 1100 by omega)
    obtain ⟨R, hR⟩ : ∃ R, R = Lib.itoa (-(u : Int)) := ⟨_, rfl⟩
    rw [← hR]
    have HR := hid (hR.trans hi)
    clear hR hi
    go_enter Tryd.func17, Tryd.ntmps17
    go_wp2_with fail
    refine c.out.mono ?_
    rintro e w2 ⟨rfl, hw2⟩
    have hb2 : Below w.heap.size w w2 := by rw [hw2]; exact (Below.refl _ _).alloc (Nat.le_refl _) _
    have hc2 : u ≠ 0 → w2.cell? ⟨w.heap.size, 0, none⟩ = some (.int .u32 u) := fun _ => by rw [hw2]; simp
    have hB := hid hb2
    have c2 := hid (decimal26 w.heap.size (if u = 0 then 0 else 1) 2 u (by have := hu.out; omega) w2 rfl (by split <;> omega) hc2)
    obtain ⟨lz, hlz⟩ : ∃ l, l = if u = 0 then 0 else 1 := ⟨_, rfl⟩
    rw [← hlz] at c2 ⊢
    clear hw2 hb2 hc2 c hlz
    go_wp2_with fail
    refine c2.out.mono ?_
    rintro e w3 ⟨rfl, hb3⟩
    have hB3 := hid (hB.out.trans (hb3.mono hB.out.size))
    have hsz : (⟨(Lib.decDigits u).toArray⟩ : ByteArray).size ≤ 5 := by have := hl.out; simpa [ByteArray.size] using this
    clear hb3 c2
    obtain ⟨S, hS⟩ : ∃ S : ByteArray, S = ⟨(Lib.decDigits u).toArray⟩ := ⟨_, rfl⟩
    rw [← hS] at hsz ⊢
    have HS := hid hS
    clear hS
    go_wp2_with fail
    go_ret
    refine ⟨?_, hB3.out⟩
    rw [HR.out, HS.out]
    rfl
  · obtain ⟨u, rfl⟩ : ∃ u : Nat, x = (u : Int) := ⟨x.toNat, by omega⟩
    have hw : IntKind.u64.wrap (u : Int) = u := by rw [IntKind.wrap_u64]; omega
    have hi : Lib.itoa (u : Int) = Lib.decDigits u := by unfold Lib.itoa; rw [if_neg hx]; simp
    have c := hid (nat27 u (by omega) w)
    have hu := hid (show u ≤ 1100 by omega)
    rw [hi]
    clear hi
    go_enter Tryd.func17, Tryd.ntmps17
    go_wp2_with fail
    refine c.out.mono ?_
    rintro e w2 ⟨rfl, hw2⟩
    have hb2 : Below w.heap.size w w2 := by rw [hw2]; exact (Below.refl _ _).alloc (Nat.le_refl _) _
    have hc2 : u ≠ 0 → w2.cell? ⟨w.heap.size, 0, none⟩ = some (.int .u32 u) := fun _ => by rw [hw2]; simp
    have hB := hid hb2
    have c2 := hid (decimal26 w.heap.size (if u = 0 then 0 else 1) 2 u (by have := hu.out; omega) w2 rfl (by split <;> omega) hc2)
    obtain ⟨lz, hlz⟩ : ∃ l, l = if u = 0 then 0 else 1 := ⟨_, rfl⟩
    rw [← hlz] at c2 ⊢
    clear hw2 hb2 hc2 c hlz
    go_wp2_with fail
    refine c2.out.mono ?_
    rintro e w3 ⟨rfl, hb3⟩
    have hB3 := hid (hB.out.trans (hb3.mono hB.out.size))
    clear hb3 c2
    go_wp2_with fail
    go_ret
    exact ⟨rfl, hB3.out⟩

end Go.Proofs.YtjkgffehafaolaaDoor
