/- Walks: Lay, Apart. -/
import Derived.OwnWalk
import Derived.Test.YtdhicfolchpmhaaLiesA
import Derived.Test.YtdhicfolchpmhaaPure
namespace Go.Proofs.Ytdhicfolchpmhaa
open Go.RowKit
set_option linter.unusedVariables false
set_option linter.unusedSimpArgs false

/-- pairs, one behind the other -/
def pairsV (f g : Nat → Value) (n : Nat) : List Value := (List.range n).flatMap fun i => [f i, g i]
theorem pairsV_succ (f g : Nat → Value) (n : Nat) : pairsV f g (n + 1) = pairsV f g n ++ [f n, g n] := by simp [pairsV, List.range_succ]
theorem pairsV_len (f g : Nat → Value) (n : Nat) : (pairsV f g n).length = n * 2 := by
  induction n with
  | zero => rfl
  | succ n ih => rw [pairsV_succ, List.length_append, ih]; simp; omega
theorem pairsV_get (f g : Nat → Value) (n i : Nat) (h : i < n) : (pairsV f g n)[i * 2]? = some (f i) ∧ (pairsV f g n)[i * 2 + 1]? = some (g i) := by
  induction n with
  | zero => omega
  | succ n ih =>
    rw [pairsV_succ]
    by_cases hlt : i < n
    · have := ih hlt
      rw [List.getElem?_append_left (by rw [pairsV_len]; omega), List.getElem?_append_left (by rw [pairsV_len]; omega)]
      exact this
    · obtain rfl : i = n := by omega
      rw [List.getElem?_append_right (by rw [pairsV_len]; omega), List.getElem?_append_right (by rw [pairsV_len]; omega), pairsV_len]
      simp

def posL (first : Int) (l : List Int) (k : Nat) : Int := first + tot (l.take k)
theorem posL_zero (first : Int) (l : List Int) : posL first l 0 = first := by simp [posL, tot]
theorem posL_succ (first : Int) (l : List Int) (k : Nat) (h : k < l.length) : posL first l (k + 1) = posL first l k + l.getD k 0 := by
  unfold posL
  rw [take_snoc l k 0 h, tot_append]
  simp [tot]; omega
theorem posL_all (first : Int) (l : List Int) : posL first l l.length = first + tot l := by simp [posL]
def Lens (l : List Int) : Prop := ∀ x ∈ l, 0 ≤ x ∧ x ≤ 4294967295
theorem Lens.at {l : List Int} (h : Lens l) (k : Nat) (hk : k < l.length) : 0 ≤ l.getD k 0 ∧ l.getD k 0 ≤ 4294967295 := h _ (getD_mem l k 0 hk)
theorem posL_mono (first : Int) (l : List Int) (hL : Lens l) : ∀ (j i : Nat), i ≤ j → j ≤ l.length → posL first l i ≤ posL first l j := by
  intro j
  induction j with
  | zero =>
    intro i h _
    have h0 : i = 0 := by omega
    subst h0
    exact Int.le_refl _
  | succ j ih =>
    intro i h hj
    by_cases he : i = j + 1
    · subst he; exact Int.le_refl _
    · have h1 := ih i (by omega) (by omega)
      have h2 := hL.at j (by omega)
      rw [posL_succ first l j (by omega)]
      omega
theorem posL_bd (first : Int) (l : List Int) (hf : 0 ≤ first ∧ first ≤ 4294967295) (hL : Lens l) : ∀ k, k ≤ l.length → 0 ≤ posL first l k ∧ posL first l k ≤ 4294967295 + k * 4294967295 := by
  intro k
  induction k with
  | zero => intro _; rw [posL_zero]; omega
  | succ k ih =>
    intro hk
    have h1 := ih (by omega)
    have h2 := hL.at k (by omega)
    rw [posL_succ first l k (by omega)]
    omega
def spanF (first : Int) (l : List Int) (i : Nat) : Value := .int .u32 (posL first l i)
def spanG (l : List Int) (i : Nat) : Value := .int .u32 (l.getD i 0)
theorem lens_of_ints {w : World} {ao : Option Addr} {l : List Int} (h : Ints .u32 w ao l) : Lens l := fun x hx => wf_u32.1 (h.wf x hx)

set_option maxHeartbeats 1000000 in
theorem lay31 (first : Int) (ao : Option Addr) (n cap : Nat) (l : List Int) (w : World) (hn : n = l.length) (hl : l.length ≤ 1048576) (hf : 0 ≤ first ∧ first ≤ 4294967295) (hi : Ints .u32 w ao l) :
    Calls Try.prog 31 #[.int .u32 first, .slice ao n cap] w fun e w' => ((first + tot l ≤ 4294967295 ∧ ∃ v, e = .returned (.tuple #[v, .int .i64 0]) ∧ w'.ownsRow w.heap.size 59 2 v l.length (pairsV (spanF first l) (spanG l) l.length)) ∨ (4294967295 < first + tot l ∧ e = .returned (.tuple #[.slice none 0 0, .int .i64 20]))) ∧ Below w.heap.size w w' := by
  subst hn
  have hI := hid hi
  have hL := hid (lens_of_ints hi)
  obtain ⟨b, off, hao, hcell⟩ := hi.at
  have hC := hid hcell.out
  have hP := hid (posL_bd first l hf hL.out)
  have hA := hid (posL_all first l)
  clear hi hcell
  have hwf : IntKind.u64.wrap first = first := by rw [IntKind.wrap_u64]; omega
  go_enter Try.func31, Try.ntmps31
  go_wp2_with fail
  clear hwf
  go_loopw [6, 7, 14] (fun p v i wr => ∃ (k : Nat) (v0 : Value), k ≤ l.length ∧ p = .int .u64 (posL first l k) ∧ v0 = v ∧ i = .int .i64 k ∧ posL first l k ≤ 4294967295 ∧ wr.ownsRow w.heap.size 59 2 v0 k (pairsV (spanF first l) (spanG l) k) ∧ Below w.heap.size w wr) (fun _ _ i _ => l.length - (intOf i).toNat)
  case atStart => exact ⟨0, _, Nat.zero_le _, by rw [posL_zero], rfl, rfl, by rw [posL_zero]; exact hf.2, World.ownsRow_nil _ _ 59 2, Below.refl _ _⟩
  case round =>
    obtain ⟨k, v, hk, rfl, rfl, rfl, hp, ho, hb⟩ := hrel
    have hO := hid ho
    have hB := hid hb
    have hsz := hb.size
    clear ho hb
    by_cases hlt : k < l.length
    · rcases hao with h0 | rfl
      · omega
      have hx := hL.out.at k hlt
      have hp0 := (hP.out k hk).1
      have hsuc := hid (posL_succ first l k hlt)
      have hc : wr.cell? ⟨b, off + k, none⟩ = some (.int .u32 (l.getD k 0)) := (hB.out.cell (World.block_lt_of_cell? w _ (hC.out k hlt))).trans (hC.out k hlt)
      have hF : spanF first l k = .int .u32 (posL first l k) := rfl
      have hG : spanG l k = .int .u32 (l.getD k 0) := rfl
      have hpx := hid (pairsV_succ (spanF first l) (spanG l) k)
      rw [hF, hG] at hpx
      obtain ⟨p, hpp⟩ : ∃ p, p = posL first l k := ⟨_, rfl⟩
      obtain ⟨x, hxx⟩ : ∃ x, x = l.getD k 0 := ⟨_, rfl⟩
      have hPP := hid hpp
      have hXX := hid hxx
      rw [← hpp] at hp hp0 hpx hsuc ⊢
      rw [← hxx] at hc hx hpx hsuc
      clear hpp hxx hF hG
      have hw1 : IntKind.u32.wrap p = p := by rw [IntKind.wrap_u32]; omega
      have hw2 : IntKind.u64.wrap x = x := by rw [IntKind.wrap_u64]; omega
      have hw3 : IntKind.u64.wrap (p + x) = p + x := by rw [IntKind.wrap_u64]; omega
      by_cases hbig : p + x ≤ 4294967295
      · have hnb : (4294967295 < p + x) = False := eq_false (by omega)
        have hbg := hid hbig
        clear hbig
        go_wp2_with (at_builtin; go_must (refine wpList_append_new rfl _ _ 53 rfl w.heap.size 59 59 (.agg #[.int .u32 0, .int .u32 0]) 2 8 1 Try.underlying53 (by kernel_rfl) rfl (by decide) _ k _ [.int .u32 p, .int .u32 x] (0, 0) hO.out rfl (by simp [Value.oneCell']) (by unfold maxLen; omega) (by omega) hsz rfl rfl ?_); intro v' w1 hown' hb' _)
        rw [← hpx.out] at hown'
        have hO' := hid hown'
        have hB' := hid (hB.out.trans hb')
        clear hown' hb'
        go_roundw
        case rel => exact ⟨k + 1, _, by omega, by rw [hsuc.out], rfl, by go_num, by rw [hsuc.out]; exact hbg.out, hO'.out, hB'.out⟩
        case measure => simp [intOf]; omega
      · have hnb : (4294967295 < p + x) = True := eq_true (by omega)
        have hbg := hid hbig
        clear hbig
        go_wp2_with (at_builtin; go_must (refine wpList_append_new rfl _ _ 53 rfl w.heap.size 59 59 (.agg #[.int .u32 0, .int .u32 0]) 2 8 1 Try.underlying53 (by kernel_rfl) rfl (by decide) _ k _ [.int .u32 p, .int .u32 x] (0, 0) hO.out rfl (by simp [Value.oneCell']) (by unfold maxLen; omega) (by omega) hsz rfl rfl ?_); intro v' w1 hown' hb' _)
        have hB' := hid (hB.out.trans hb')
        clear hown' hb'
        go_ret2
        refine ⟨.inr ⟨?_, rfl⟩, hB'.out⟩
        have h1 := posL_mono first l hL.out l.length (k + 1) (by omega) (Nat.le_refl _)
        rw [hA.out, hsuc.out] at h1
        have := hbg.out
        omega
    · obtain rfl : k = l.length := by omega
      go_wp2_with fail
      go_ret2
      exact ⟨.inl ⟨by rw [← hA.out]; exact hp, _, rfl, hO.out⟩, hB.out⟩

set_option maxHeartbeats 1000000 in
theorem apart32 (ao : Option Addr) (g n c : Nat) (hao : n = 0 ∨ ao = some ⟨g, 0, none⟩) (f : Nat → Int) (h : Nat → Int) (w : World) (hn : n ≤ 1048576) (hc : n ≤ c)
    (hcell : ∀ i, i < n → w.cell? ⟨g, i * 2, none⟩ = some (.int .u32 (f i)) ∧ w.cell? ⟨g, i * 2 + 1, none⟩ = some (.int .u32 (h i)))
    (hf : ∀ i, i < n → 0 ≤ f i ∧ f i ≤ 4294967295) (hh : ∀ i, i < n → 0 ≤ h i ∧ h i ≤ 4294967295) (hap : ∀ i j, j < i → i < n → f j + h j ≤ f i) :
    Calls Try.prog 32 #[.slice ao n c] w fun e w' => e = .returned (.tuple #[.int .i64 0, .int .i64 0, .bool true]) ∧ w.grownBy w' none := by
  have hC := hid hcell
  have hF := hid hf
  have hH := hid hh
  have hA := hid hap
  clear hcell hf hh hap
  go_enter Try.func32, Try.ntmps32
  go_wp2_with fail
  go_loopw [11] (fun i wr => ∃ k : Nat, k ≤ n ∧ i = .int .i64 k ∧ w.grownBy wr none) (fun i _ => n - (intOf i).toNat)
  case atStart => exact ⟨0, Nat.zero_le _, rfl, grown_refl _ _⟩
  case round =>
    obtain ⟨k, hk, rfl, hg⟩ := hrel
    have hG := hid hg
    clear hg
    by_cases hlt : k < n
    · rcases hao with h0 | rfl
      · omega
      have hc1 := hG.out.cell (hC.out k hlt).1 (by simp)
      have hc2 := hG.out.cell (hC.out k hlt).2 (by simp)
      have hfk := hF.out k hlt
      have hhk := hH.out k hlt
      go_wp2_with fail
      go_loopw [20] (fun j w2 => ∃ m : Nat, m ≤ k ∧ j = .int .i64 m ∧ w.grownBy w2 none ∧ w2.cell? ⟨wr.heap.size, 0, none⟩ = some (.int .u32 (f k)) ∧ w2.cell? ⟨wr.heap.size, 1, none⟩ = some (.int .u32 (h k))) (fun j _ => k - (intOf j).toNat)
      case atStart => exact ⟨0, Nat.zero_le _, rfl, grown_trans hG.out (World.grownBy_alloc _ _ _), by simp, by simp⟩
      case round =>
        clear hc1 hc2
        obtain ⟨m, hm, rfl, hg, hx1, hx2⟩ := hrel
        have hG := hid hg
        clear hg
        by_cases hlt2 : m < k
        · have hc1 := hG.out.cell (hC.out m (by omega)).1 (by simp)
          have hc2 := hG.out.cell (hC.out m (by omega)).2 (by simp)
          have hfm := hF.out m (by omega)
          have hhm := hH.out m (by omega)
          have ham := hid (hA.out k m hlt2 hlt)
          have hlw := World.block_lt_of_cell? _ _ hx1
          have hq1 := (World.grownBy_alloc wr (.cells #[.int .u32 (f m), .int .u32 (h m)] 59) none).cell hx1 (by simp)
          have hq2 := (World.grownBy_alloc wr (.cells #[.int .u32 (f m), .int .u32 (h m)] 59) none).cell hx2 (by simp)
          have hq1' := hid hq1
          have hq2' := hid hq2
          clear hq1 hq2
          go_wp2_with fail
          have h40 := lap40 (f k) (h k) (f m) (h m) (wr.alloc (.cells #[.int .u32 (f m), .int .u32 (h m)] 59)) hfk hhk hfm hhm ham.out
          refine h40.mono ?_
          clear h40
          rintro e w3 ⟨rfl, hg3⟩
          have hG3 := hid (grown_trans hG.out (grown_trans (World.grownBy_alloc _ _ _) hg3))
          have hr1 := hid (hg3.cell hq1'.out (by simp))
          have hr2 := hid (hg3.cell hq2'.out (by simp))
          clear hg3 hq1' hq2' hc1 hc2 hx1 hx2 hlw
          go_wp2_with fail
          go_roundw
          case rel => exact ⟨m + 1, by omega, by go_num, hG3.out, hr1.out, hr2.out⟩
          case measure => simp [intOf]; omega
        · obtain rfl : m = k := by omega
          go_wp2_with fail
          go_roundw
          case rel => exact ⟨m + 1, by omega, by go_num, hG.out⟩
          case measure => simp [intOf]; omega
    · go_wp2_with fail
      go_ret3
      exact ⟨rfl, hG.out⟩

end Go.Proofs.Ytdhicfolchpmhaa
