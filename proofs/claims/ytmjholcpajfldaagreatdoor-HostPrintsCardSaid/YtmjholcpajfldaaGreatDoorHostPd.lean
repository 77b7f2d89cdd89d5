/- Walks: the text of plain bytes, as it may be printed. No condition. -/
import Derived.Test.YtmjholcpajfldaaGreatDoorHostPc
import Derived.Test.YtmjholcpajfldaaGreatDoorHostMf
namespace Go.Proofs.YtmjholcpajfldaaGreatDoor
open Go.RowKit
set_option linter.unusedVariables false
set_option linter.unusedSimpArgs false

set_option maxRecDepth 100000
open Go.Shelf
attribute [local go_sem] Oper.semAt_some

theorem index_none {l : List UInt8} {c : UInt8} (h : c ∉ l) : Lib.indexByte l c = -1 := by
  induction l with
  | nil => rfl
  | cons b l ih =>
    have h1 : (b == c) = false := by
      rw [beq_eq_false_iff_ne]
      exact fun e => h (by rw [e]; exact List.mem_cons_self)
    unfold Lib.indexByte
    rw [h1, ih (fun q => h (List.mem_cons_of_mem _ q))]
    rfl
theorem cut140 (s : ByteArray) (h : (0 : UInt8) ∉ s.data.toList) (w : World) : Calls Tryz.prog 140 #[.string s, .string ⟨#[0]⟩] w fun e w' => e = .returned (.tuple #[.string s, .string ⟨#[]⟩, .bool false]) ∧ w' = w := by
  have c := hid (Tryz.stringslite_Index_one s 0 w)
  rw [index_none h] at c
  clear h
  go_enter Tryz.func140, Tryz.ntmps140
  go_wp2_with fail
  refine c.out.mono ?_
  clear c
  rintro e w2 ⟨rfl, rfl⟩
  go_wp2_with fail
  go_ret3
  exact ⟨rfl, rfl⟩
theorem cut105 (s : ByteArray) (h : (0 : UInt8) ∉ s.data.toList) (w : World) : Calls Tryz.prog 105 #[.string s, .string ⟨#[0]⟩] w fun e w' => e = .returned (.tuple #[.string s, .string ⟨#[]⟩, .bool false]) ∧ w' = w := by
  have c := hid (cut140 s h w)
  clear h
  go_enter Tryz.func105, Tryz.ntmps105
  go_wp2_with fail
  refine c.out.mono ?_
  clear c
  rintro e w2 ⟨rfl, rfl⟩
  go_wp2_with fail
  go_ret3
  exact ⟨rfl, rfl⟩
theorem bd_own (B b : Nat) (f : List PC → List UInt8) : Own (fun (ys : List PC) W => Bd W B b (f ys)) := fun s W W' row hs hg hr => by
  obtain ⟨p, v, hp, hX, hO⟩ := hs.bx
  have hne : ∀ q o, W.heap[q]? = some o → o.isCells = true → row ≠ some q := fun q o ho hc e => by
    obtain ⟨o2, h2, h3⟩ := hr q e
    rw [ho] at h2
    cases h2
    rw [hc] at h3
    cases h3
  refine ⟨⟨p, v, hp, hX.on hg (fun e => hne b _ hX rfl e.symm), hO.kept hg ?_⟩, hs.lo⟩
  rcases hO.2 with ⟨rfl, -⟩ | ⟨g, cp, cur, rfl, hgB, hh, r⟩
  · exact .inl rfl
  · exact .inr (fun e => hne g _ hh rfl e.symm)
def bytesC (ys : List PC) : List UInt8 := ys.map (fun x => x.1.2)
set_option maxHeartbeats 4000000 in
theorem guest67 (ao : Option Addr) (cap : Nat) (s : ByteArray) (f : Nat → PC) (hf : ∀ i (h : i < s.size), (f i).1 = (i, s[i])) (h1 : 1 ≤ s.size) (h2 : s.size ≤ 64) (w : World) (hb : By w ao s.data.toList) :
    Calls Tryz.prog 67 #[.slice ao s.size cap] w fun e w' => e = .returned (.string s) ∧ Below w.heap.size w w' := by
  have hcv := convBy hb s.size cap rfl
  have hz : (0 : UInt8) ∉ s.data.toList := fun q => by
    obtain ⟨i, hi, he⟩ := List.getElem_of_mem q
    have hi2 : i < s.size := hi
    have := (f i).2
    rw [hf i hi2] at this
    have e2 : s[i] = 0 := he
    rw [e2] at this
    simp at this
  have c105 := hid (cut105 s hz w)
  have hby : (⟨s.data.toList.toArray⟩ : ByteArray) = s := by cases s; simp
  rw [hby] at hcv
  clear hz hby
  refine (callsIn_wide (n := 6)).1 ?_
  refine callsIn_of_wp_marks Tryz.func67 rfl trivial ?_ rfl
  simp only [Tryz.ntmps67, List.size_toArray, List.length_cons, List.length_nil, Nat.reduceAdd, Nat.reduceSub, Array.replicate_succ, Array.replicate_zero, List.push_toArray, List.append_toArray, List.nil_append, List.cons_append]
  gi_wp2_with (first
    | (refine ⟨trivial, ?_⟩; gi_at_call 105; refine (callsIn_wide.2 c105.out).mono ?_; rintro e w1 ⟨rfl, hw1⟩; obtain rfl : w = w1 := hw1.symm)
    | (refine ⟨trivial, ?_⟩; gi_at_call 106; refine (callsIn_wide.2 (cutting106 s _)).mono ?_; rintro e w2 ⟨rfl, rfl⟩))
  have hB0 : Below w.heap.size w ((w.alloc (.cells #[.pointer none, .slice none 0 0] 147)).alloc (.cells #[.string s] 9)) := ((Below.refl _ w).alloc (Nat.le_refl _) _).alloc (by simp) _
  have hX0 : Bx ((w.alloc (.cells #[.pointer none, .slice none 0 0] 147)).alloc (.cells #[.string s] 9)) w.heap.size #[.pointer none, .slice none 0 0] 147 := (Bx.new w _ 147).below ((Below.refl _ _).alloc (Nat.le_refl _) _)
  refine wpIn_rangeFunc_ownF rfl (by omega) (gf := 141) (lb := #[.pointer (some ⟨w.heap.size + 1, 0, none⟩)]) rfl trivial (enters_of Tryz.func141 (by kernel_rfl) rfl)
    (cut_stops Fence.wide 5 trivial trivial rfl (by omega) (w.heap.size + 1) s f hf _ (by simp) (by simp)) walksK_t (fun W l o o' k1 k2 k3 k4 => walksK_b W l o o' k1 k2 k3 k4) (Below.refl _ _) (fun _ => rfl)
    (fun ys W => Bd W w.heap.size w.heap.size (bytesC ys) ∧ Below w.heap.size w W) (fun _ _ _ => False)
    (OwnFrom.and (Own.from (bd_own _ _ bytesC) _) (ownFrom_below (Nat.le_refl _) (by simp; omega)))
    (fun _ _ _ _ _ hs _ _ => hs)
    ⟨⟨⟨_, _, .inl rfl, hX0, World.ownsRow_nil _ _ _ _⟩, Nat.le_refl _⟩, hB0⟩
    (fun x => { tmps := #[.slice ao s.size cap, undef, .string ⟨#[]⟩, .string s, .string ⟨#[]⟩, .bool false, .pointer (some ⟨w.heap.size, 0, none⟩), undef, .int .i32 (x.1.2.toNat : Int), .tuple #[.string s, .string ⟨#[]⟩, .bool false], .slice ao s.size cap, .string s, .tuple #[.string s, .string ⟨#[]⟩, .bool false], .string s, .string ⟨#[]⟩, .bool false, .string s, .func (.func 141) #[] #[.pointer (some ⟨w.heap.size + 1, 0, none⟩)], .int .i64 (x.1.1 : Int), .int .i32 (x.1.2.toNat : Int), undef, undef, undef, undef, undef, undef], defers := [] }) ?assign ?body ?done ?stop
  case assign =>
    intro l x W K hK
    gi_wp2
    exact hK
  case body =>
    rintro l pre x W ⟨hD, hW⟩ hlen
    have hlb : (bytesC pre).length ≤ 1048576 := by simp [bytesC]; omega
    have p107 := hid (fun w => printed107 x.1.2 x.2 w)
    have w108 := hid (write108 w.heap.size w.heap.size (bytesC pre) x.1.2 (by have := x.2; omega) hlb W hD hW.size)
    have hap : bytesC (pre ++ [x]) = bytesC pre ++ [x.1.2] := by simp [bytesC]
    have hd : 1 ≤ 6 - 1 - 1 := by omega
    gi_wp2_with (first
      | (refine ⟨trivial, ?_⟩; gi_at_call 107; refine (CallsIn.inRound l (callsIn_wide.2 (p107.out _))).mono ?_; rintro e w5 ⟨rfl, hw5⟩; obtain rfl : W = w5 := hw5.symm)
      | (refine ⟨trivial, ?_⟩; gi_at_call 108; refine (CallsIn.inRound l (callsIn_wide.2 w108.out)).mono ?_; rintro e w6 ⟨⟨v6, rfl⟩, hD6, hK6, hB6⟩))
    exact ⟨hK6, hK6.walks, by rw [hap]; exact hD6, hW.trans hB6⟩
  case done =>
    rintro D ys W hD rfl ⟨hI, hW⟩ hK
    have hys : bytesC (upC f s.size) = s.data.toList := by
      apply List.ext_getElem
      · simp only [bytesC, List.length_map, upC_len]; rfl
      · intro i h3 h4
        have h5 : i < s.size := h4
        have := hf i h5
        simp only [bytesC, upC, List.map_map, List.getElem_map, List.getElem_range, Function.comp_apply, this]
        rfl
    rw [hys] at hI
    have hl : 0 < s.data.toList.length := h1
    have s110 := hid (string110 w.heap.size w.heap.size s.data.toList W hI hl)
    have hby : (⟨s.data.toList.toArray⟩ : ByteArray) = s := by cases s; simp
    rw [hby] at s110
    gi_wp2_with (refine ⟨trivial, ?_⟩; gi_at_call 110; refine (callsIn_wide.2 s110.out).mono ?_; rintro e w7 ⟨rfl, hB7, hK7⟩)
    have hK8 := hK7.same D _ hK rfl
    refine ⟨by simp, .inl ⟨_, _, rfl, run_takeDeferred hK8, ?_⟩⟩
    refine ⟨_, results_tmp rfl _ _ _, rfl, ?_⟩
    exact (hW.trans hB7).trans (belowK_b (w := w) (Nat.le_refl _) w7 D _ _ (by simp at hD; omega) hK8 rfl rfl)
  case stop =>
    rintro D c pre W _ _ h _
    exact h.elim

end Go.Proofs.YtmjholcpajfldaaGreatDoor
