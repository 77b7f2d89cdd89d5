/- Walks: is it a name? No condition. -/
import Derived.Test.YtecpkadjnecbiaaGreatDoorProg
import Derived.Test.YtecpkadjnecbiaaGreatDoorTokJ
import Derived.Test.YtecpkadjnecbiaaGreatDoorTokK
import Derived.Test.YtecpkadjnecbiaaGreatDoorKitG
import Derived.Test.YtecpkadjnecbiaaGreatDoorTreeO
namespace Go.Proofs.YtecpkadjnecbiaaGreatDoor
open Go.RowKit
set_option linter.unusedVariables false
set_option linter.unusedSimpArgs false

open Go.Shelf
attribute [local go_sem] Oper.semAt_some

/-- a name: one word, of at most 32 bytes, not a reserved one -/
def nameOk (s : ByteArray) : Bool := oneWord s && !inList resL s && decide (s.size ≤ 32)
theorem row_forms {w : World} {base size n : Nat} {e : TypeId} {v : Value} {xs : List Value} (h : w.ownsRow base e size v n xs) : (v = .slice none 0 0 ∧ n = 0) ∨ ∃ g cap, v = .slice (some ⟨g, 0, none⟩) n cap := by
  rcases h.2 with ⟨h1, h2⟩ | ⟨g, cap, _, h1, _⟩
  · exact .inl ⟨h1, by first | exact h2 | omega⟩
  · exact .inr ⟨g, cap, h1⟩
set_option maxRecDepth 100000 in
set_option maxHeartbeats 1000000 in
theorem named43 (kd at' : Int) (txt : ByteArray) (w : World) (hs : txt.size ≤ 1048576) : Calls Tryz.prog 43 #[.agg #[.int .u8 kd, .int .i64 at', .string txt]] w fun e w' => e = .returned (.bool (kd == 1 && !inList resL txt && decide (txt.size ≤ 32))) ∧ Below w.heap.size w w' := by
  have hcall := hid (reserved57 txt (w.alloc (.cells #[.int .u8 kd, .int .i64 at', .string txt] 73)))
  have hX := hid (Bx.new w #[.int .u8 kd, .int .i64 at', .string txt] 73)
  go_enter Tryz.func43, Tryz.ntmps43
  cases hk : kd == 1
  · go_wp2_with fail
    go_ret
    exact ⟨ret_bool (by simp), (Below.refl _ _).alloc (Nat.le_refl _) _⟩
  · go_wp2_with fail
    refine hcall.out.mono ?_
    rintro e w2 ⟨rfl, hb⟩
    have hX2 := hX.out.on (grown_of_below hb) (by simp)
    have p2 := hX2.cell 2
    have hB := hid (((Below.refl w.heap.size w).alloc (Nat.le_refl _) (.cells #[.int .u8 kd, .int .i64 at', .string txt] 73)).trans (hb.mono (by simp)))
    clear hb hX2
    cases hr : inList resL txt
    · go_wp2_with fail
      go_ret
      refine ⟨ret_bool ?_, hB.out⟩
      by_cases h32 : txt.size ≤ 32
      · simp [h32, hr]
        try omega
      · simp [h32, hr]
        try omega
    · go_wp2_with fail
      go_ret
      exact ⟨ret_bool (by simp [hr]), hB.out⟩
theorem toList_refl (s : ByteArray) : (s.toList == s.toList) = true := by simp
theorem toList_ne {a b : ByteArray} (h : a ≠ b) : (a.toList == b.toList) = false := by
  simp only [beq_eq_false_iff_ne, ne_eq, ByteArray.toList_eq]
  intro e
  exact h (ByteArray.ext (by rw [← Array.toList_inj]; exact e))
set_option maxRecDepth 100000 in
set_option maxHeartbeats 2000000 in
theorem isName29 (s : ByteArray) (w : World) (hs : s.size ≤ 1048576) : Calls Tryz.prog 29 #[.string s] w fun e w' => e = .returned (.bool (nameOk s)) ∧ Below w.heap.size w w' := by
  have hcall := hid (tokens42 s w hs)
  go_enter Tryz.func29, Tryz.ntmps29
  go_wp2_with fail
  refine hcall.out.mono ?_
  rintro e w2 ⟨⟨v, en, er, rfl, h0, h1⟩, hb⟩
  have hB := hid hb
  clear hb hcall
  by_cases her : er = 0
  rotate_left
  · have hq : (er == 0) = false := by simpa using her
    have h1' := hid (h1 her)
    clear h0 h1
    go_wp2_with fail
    go_ret
    refine ⟨ret_bool ?_, hB.out⟩
    unfold nameOk
    cases ho : oneWord s
    · rfl
    · have := h1'.out ho
      have h2 : decide (s.size ≤ 32) = false := by simp; omega
      simp [h2]
  obtain ⟨n, xs, hO, hF⟩ := h0 her
  subst her
  clear h1 h0
  have hF' := hid hF
  clear hF
  have hname : Hid (n ≠ 1 → oneWord s = false) := hid (fun hn => by
    cases ho : oneWord s
    · rfl
    · rcases hF'.out.t ho with ⟨h1, _⟩ | ⟨_, h2, _⟩
      · simp only [oneWord, Bool.and_eq_true, decide_eq_true_eq] at ho; omega
      · exact absurd h2 hn)
  rcases row_forms hO with ⟨rfl, rfl⟩ | ⟨g, cap, rfl⟩
  · clear hO
    go_wp2_with fail
    go_ret
    exact ⟨ret_bool (by simp [nameOk, hname.out (by decide)]), hB.out⟩
  have hcap := hO.1
  by_cases hn : n = 1
  rotate_left
  · have hq : ((n : Int) == 1) = false := by simp; omega
    have hO' := hid hO
    clear hO hcap
    go_wp2_with fail
    go_ret
    exact ⟨ret_bool (by simp [nameOk, hname.out hn]), hB.out⟩
  subst hn
  obtain ⟨kd, at', txt, rfl⟩ := hF'.out.one rfl
  have p0 : w2.cell? ⟨g, 0, none⟩ = some (.int .u8 kd) := (hO.cellAt 0 (by decide)).trans rfl
  have p1 : w2.cell? ⟨g, 1, none⟩ = some (.int .i64 at') := (hO.cellAt 1 (by decide)).trans rfl
  have p2 : w2.cell? ⟨g, 2, none⟩ = some (.string txt) := (hO.cellAt 2 (by decide)).trans rfl
  clear hO hcap
  by_cases ht : txt = s
  rotate_left
  · have hq := toList_ne ht
    go_wp2_with fail
    go_ret
    refine ⟨ret_bool ?_, hB.out⟩
    cases ho : oneWord s
    · simp [nameOk, ho]
    · rcases hF'.out.t ho with ⟨_, h2⟩ | ⟨_, _, h3⟩
      · cases h2
      · simp at h3
        exact absurd h3.2.2 ht
  subst ht
  have hq := toList_refl txt
  have hcall2 := hid (named43 kd at' txt w2 hs)
  go_wp2_with fail
  refine hcall2.out.mono ?_
  rintro e w3 ⟨rfl, hb3⟩
  have hB3 := hid (hB.out.trans (hb3.mono hB.out.size))
  clear hb3
  go_wp2_with fail
  go_ret
  refine ⟨ret_bool ?_, hB3.out⟩
  have hk : (kd == 1) = oneWord txt := by
    cases ho : oneWord txt
    · have := hF'.out.f ho rfl kd at' txt rfl
      simp at this
      simpa using this
    · rcases hF'.out.t ho with ⟨_, h2⟩ | ⟨_, _, h3⟩
      · cases h2
      · simp at h3
        simp [h3.1]
  unfold nameOk
  rw [hk]
  try simp

end Go.Proofs.YtecpkadjnecbiaaGreatDoor
