/- Walks: expressions that may be, of the document. No condition. -/
import Derived.Test.YtecpkadjnecbiaaGreatDoorProg
import Derived.Test.YtecpkadjnecbiaaGreatDoorChkE
import Derived.Outline
namespace Go.Proofs.YtecpkadjnecbiaaGreatDoor
open Go.RowKit
set_option linter.unusedVariables false
set_option linter.unusedSimpArgs false

open Go.Shelf

theorem nameOk_empty {s : ByteArray} (h : s.toList.isEmpty = true) : nameOk s = false := by
  have h0 : s.size = 0 := by
    rw [ByteArray.toList_eq] at h
    have := List.isEmpty_iff.1 h
    have h1 : s.data.toList.length = 0 := by rw [this]; rfl
    exact h1
  simp [nameOk, oneWord, h0]
theorem una_or (s : ByteArray) : inList unaL s = (s.toList == [45] || s.toList == [33] || s.toList == [126]) := by
  simp only [inList, unaL, List.any_cons, List.any_nil, lit_toList, Bool.or_assoc, Bool.or_false]
set_option maxRecDepth 100000 in
set_option maxHeartbeats 8000000 in
theorem may49 : ∀ (n : Nat) (t : Int) (h : EH) (kids : Exs) (v : Value) (w : World), kids.sz < n → kids.sz ≤ 100000000 → h.Wf → kids.Wf → SlE w false none kids v →
    Calls Tryz.prog 49 #[aggE t h v] w fun e w' => e = .returned (.bool (okE kids && okH h kids.len)) ∧ Below w.heap.size w w' := by
  intro n
  induction n with
  | zero => intro t h kids v w hn; omega
  | succ n ih =>
    have IH := hid ih
    clear ih
    intro t h kids v w hn hs hwf hkwf hv
    obtain ⟨ka, b, off, c, rfl, hka, hin⟩ := hv
    have hl := kids.len_le
    have hS := hid (And.intro hn hs)
    have hI := hid hin
    have hkb : kids.len ≤ 100000000 := by omega
    have hW := hid hwf
    have hKW := hid hkwf
    obtain ⟨a0, a1, a2, a3, a4, a5⟩ := h
    obtain ⟨len, hlen⟩ : ∃ m, m = kids.len := ⟨_, rfl⟩
    rw [← hlen] at hka hl hkb ⊢
    have hLen := hid hlen
    clear hn hs hin hwf hkwf hlen
    have hX0 := hid (Bx.new w #[.int .i64 t, .int .u8 a1, .int .u32 a2, .int .u8 a3, .string a4, .string a5, .slice ka len c] 64)
    have hB0 := hid ((Below.refl w.heap.size w).alloc (Nat.le_refl _) (.cells #[.int .i64 t, .int .u8 a1, .int .u32 a2, .int .u8 a3, .string a4, .string a5, .slice ka len c] 64))
    go_enter Tryz.func49, Tryz.ntmps49
    go_wp2_with fail
    go_loopw [2, 3] (fun z i wr => ∃ (k : Nat) (r : Exs), z = .bool false ∧ k + r.len = len ∧ i = .int .i64 k ∧ ExsIn w false none r b off k ∧ r.sz ≤ kids.sz ∧ r.Wf ∧ okE kids = okE r ∧ Bx wr w.heap.size #[.int .i64 t, .int .u8 a1, .int .u32 a2, .int .u8 a3, .string a4, .string a5, .slice ka len c] 64 ∧ Below w.heap.size w wr) (fun _ i _ => len - (intOf i).toNat)
    case atStart => exact ⟨0, kids, rfl, by have := hLen.out; omega, rfl, hI.out, Nat.le_refl _, hKW.out, rfl, hX0.out, hB0.out⟩
    case round =>
      clear hI hX0 hB0
      obtain ⟨k, r, rfl, hk, rfl, hr, hz, hrw, hok, hbx, hb⟩ := hrel
      have hX := hid (And.intro hbx hb)
      have hOK := hid hok
      have p0 := hX.out.1.cell 0
      have p1 := hX.out.1.cell 1
      have p2 := hX.out.1.cell 2
      have p3 := hX.out.1.cell 3
      have p4 := hX.out.1.cell 4
      have p5 := hX.out.1.cell 5
      have p6 := hX.out.1.cell 6
      have pl := hX.out.1.lt
      simp at p0 p1 p2 p3 p4 p5 p6
      cases r with
      | nil =>
        simp only [Exs.len, Nat.add_zero] at hk
        subst k
        clear hr hz hrw hok hbx hb
        have hkids : Hid (okE kids = true) := hOK
        by_cases h1 : a1 = 1
        · subst h1
          by_cases h3 : a3 = 0
          rotate_left
          · have q3 : (a3 != 0) = true := by simpa using h3
            go_wp2_with fail
            go_ret
            exact ⟨ret_bool (by rw [hkids.out]; simp [okH_1, bareB, h3]), hX.out.2⟩
          subst h3
          cases h5 : a5.toList.isEmpty
          · go_wp2_with fail
            go_ret
            exact ⟨ret_bool (by rw [hkids.out]; simp [okH_1, bareB, h5]), hX.out.2⟩
          cases h4 : a4.toList.isEmpty
          · go_wp2_with fail
            go_ret
            exact ⟨ret_bool (by rw [hkids.out]; simp [okH_1, bareB, h5, h4]), hX.out.2⟩
          go_wp2_with fail
          go_ret
          exact ⟨ret_bool (by rw [hkids.out]; simp [okH_1, bareB, h5, h4]), hX.out.2⟩
        by_cases h2 : a1 = 2
        · subst h2
          by_cases h3 : a3 = 0
          rotate_left
          · have q3 : (a3 != 0) = true := by simpa using h3
            go_wp2_with fail
            go_ret
            exact ⟨ret_bool (by rw [hkids.out]; simp [okH_2, bareB, h3]), hX.out.2⟩
          subst h3
          cases h5 : a5.toList.isEmpty
          · go_wp2_with fail
            go_ret
            exact ⟨ret_bool (by rw [hkids.out]; simp [okH_2, bareB, h5]), hX.out.2⟩
          cases h4 : a4.toList.isEmpty
          · go_wp2_with fail
            go_ret
            exact ⟨ret_bool (by rw [hkids.out]; simp [okH_2, bareB, h5, h4]), hX.out.2⟩
          cases hq : (len : Int) == 0
          · have hq2 : ¬ (len : Int) = 0 := by simpa using hq
            go_wp2_with fail
            go_ret
            exact ⟨ret_bool (by rw [hkids.out]; simp [okH_2, bareB, h5, h4, hq, hq2]; try omega), hX.out.2⟩
          have hq2 : (len : Int) = 0 := by simpa using hq
          have hq3 : len = 0 := by omega
          have hq3 := hid hq3
          clear hq2
          have hcf := hid (finite18 a2 hW.out.1 wr)
          go_wp2_with fail
          refine hcf.out.mono ?_
          rintro e w3 ⟨rfl, hw⟩
          subst w3
          cases hf : finB a2
          · go_wp2_with fail
            go_ret
            exact ⟨ret_bool (by rw [hkids.out]; simp [okH_2, bareB, h5, h4, hq3.out, hf]), hX.out.2⟩
          go_wp2_with fail
          go_ret
          exact ⟨ret_bool (by rw [hkids.out]; simp [okH_2, bareB, h5, h4, hq3.out, hf]), hX.out.2⟩
        by_cases h3 : a1 = 3
        · subst h3
          by_cases h2 : a2 = 0
          rotate_left
          · have q2 : (a2 != 0) = true := by simpa using h2
            go_wp2_with fail
            go_ret
            exact ⟨ret_bool (by rw [hkids.out]; simp [okH_3, bareB, h2]), hX.out.2⟩
          subst h2
          by_cases h3 : a3 = 0
          rotate_left
          · have q3 : (a3 != 0) = true := by simpa using h3
            go_wp2_with fail
            go_ret
            exact ⟨ret_bool (by rw [hkids.out]; simp [okH_3, bareB, h3]), hX.out.2⟩
          subst h3
          cases h5 : a5.toList.isEmpty
          · go_wp2_with fail
            go_ret
            exact ⟨ret_bool (by rw [hkids.out]; simp [okH_3, bareB, h5]), hX.out.2⟩
          cases h4 : a4.toList.isEmpty
          rotate_left
          · have hno := hid (nameOk_empty h4)
            go_wp2_with fail
            go_ret
            exact ⟨ret_bool (by rw [hkids.out]; simp [okH_3, bareB, h5, hno.out]), hX.out.2⟩
          have hcf := hid (name16 a4 wr hW.out.2.1)
          go_wp2_with fail
          refine hcf.out.mono ?_
          rintro e w2 ⟨rfl, hb2⟩
          have hX2 := hid (And.intro (hX.out.1.on (grown_of_below hb2) (by simp)) (hX.out.2.trans (hb2.mono hX.out.2.size)))
          clear hb2 hcf p0 p1 p2 p3 p4 p5 p6 pl
          have p0 := hX2.out.1.cell 0
          have p1 := hX2.out.1.cell 1
          have p2 := hX2.out.1.cell 2
          have p3 := hX2.out.1.cell 3
          have p4 := hX2.out.1.cell 4
          have p5 := hX2.out.1.cell 5
          have p6 := hX2.out.1.cell 6
          simp at p0 p1 p2 p3 p4 p5 p6
          cases hno : nameOk a4
          · go_wp2_with fail
            go_ret
            exact ⟨ret_bool (by rw [hkids.out]; simp [okH_3, bareB, h5, hno]), hX2.out.2⟩
          go_wp2_with fail
          go_ret
          exact ⟨ret_bool (by rw [hkids.out]; simp [okH_3, bareB, h5, hno]), hX2.out.2⟩
        by_cases h4 : a1 = 4
        · subst h4
          by_cases h2 : a2 = 0
          rotate_left
          · have q2 : (a2 != 0) = true := by simpa using h2
            go_wp2_with fail
            go_ret
            exact ⟨ret_bool (by rw [hkids.out]; simp [okH_4, bareB, h2]), hX.out.2⟩
          subst h2
          by_cases h3 : a3 = 0
          rotate_left
          · have q3 : (a3 != 0) = true := by simpa using h3
            go_wp2_with fail
            go_ret
            exact ⟨ret_bool (by rw [hkids.out]; simp [okH_4, bareB, h3]), hX.out.2⟩
          subst h3
          cases h5 : a5.toList.isEmpty
          · go_wp2_with fail
            go_ret
            exact ⟨ret_bool (by rw [hkids.out]; simp [okH_4, bareB, h5]), hX.out.2⟩
          cases h4 : a4.toList.isEmpty
          rotate_left
          · have hno := hid (nameOk_empty h4)
            go_wp2_with fail
            go_ret
            exact ⟨ret_bool (by rw [hkids.out]; simp [okH_4, bareB, h5, hno.out]), hX.out.2⟩
          have hcf := hid (name16 a4 wr hW.out.2.1)
          go_wp2_with fail
          refine hcf.out.mono ?_
          rintro e w2 ⟨rfl, hb2⟩
          have hX2 := hid (And.intro (hX.out.1.on (grown_of_below hb2) (by simp)) (hX.out.2.trans (hb2.mono hX.out.2.size)))
          clear hb2 hcf p0 p1 p2 p3 p4 p5 p6 pl
          have p0 := hX2.out.1.cell 0
          have p1 := hX2.out.1.cell 1
          have p2 := hX2.out.1.cell 2
          have p3 := hX2.out.1.cell 3
          have p4 := hX2.out.1.cell 4
          have p5 := hX2.out.1.cell 5
          have p6 := hX2.out.1.cell 6
          simp at p0 p1 p2 p3 p4 p5 p6
          cases hno : nameOk a4
          · go_wp2_with fail
            go_ret
            exact ⟨ret_bool (by rw [hkids.out]; simp [okH_4, bareB, h5, hno]), hX2.out.2⟩
          go_wp2_with fail
          go_ret
          exact ⟨ret_bool (by rw [hkids.out]; simp [okH_4, bareB, h5, hno]), hX2.out.2⟩
        by_cases h5 : a1 = 5
        · subst h5
          by_cases h2 : a2 = 0
          rotate_left
          · have q2 : (a2 != 0) = true := by simpa using h2
            go_wp2_with fail
            go_ret
            exact ⟨ret_bool (by rw [hkids.out]; simp [okH_5, bareB, h2]), hX.out.2⟩
          subst h2
          by_cases h3 : a3 = 0
          rotate_left
          · have q3 : (a3 != 0) = true := by simpa using h3
            go_wp2_with fail
            go_ret
            exact ⟨ret_bool (by rw [hkids.out]; simp [okH_5, bareB, h3]), hX.out.2⟩
          subst h3
          cases h5 : a5.toList.isEmpty
          · go_wp2_with fail
            go_ret
            exact ⟨ret_bool (by rw [hkids.out]; simp [okH_5, bareB, h5]), hX.out.2⟩
          cases h4 : a4.toList.isEmpty
          rotate_left
          · have hno := hid (nameOk_empty h4)
            go_wp2_with fail
            go_ret
            exact ⟨ret_bool (by rw [hkids.out]; simp [okH_5, bareB, h5, hno.out]), hX.out.2⟩
          have hcf := hid (name16 a4 wr hW.out.2.1)
          go_wp2_with fail
          refine hcf.out.mono ?_
          rintro e w2 ⟨rfl, hb2⟩
          have hX2 := hid (And.intro (hX.out.1.on (grown_of_below hb2) (by simp)) (hX.out.2.trans (hb2.mono hX.out.2.size)))
          clear hb2 hcf p0 p1 p2 p3 p4 p5 p6 pl
          have p0 := hX2.out.1.cell 0
          have p1 := hX2.out.1.cell 1
          have p2 := hX2.out.1.cell 2
          have p3 := hX2.out.1.cell 3
          have p4 := hX2.out.1.cell 4
          have p5 := hX2.out.1.cell 5
          have p6 := hX2.out.1.cell 6
          simp at p0 p1 p2 p3 p4 p5 p6
          cases hno : nameOk a4
          · go_wp2_with fail
            go_ret
            exact ⟨ret_bool (by rw [hkids.out]; simp [okH_5, bareB, h5, hno]), hX2.out.2⟩
          go_wp2_with fail
          go_ret
          exact ⟨ret_bool (by rw [hkids.out]; simp [okH_5, bareB, h5, hno]), hX2.out.2⟩
        by_cases h6 : a1 = 6
        · subst h6
          by_cases h2 : a2 = 0
          rotate_left
          · have q2 : (a2 != 0) = true := by simpa using h2
            go_wp2_with fail
            go_ret
            exact ⟨ret_bool (by rw [hkids.out]; simp [okH_6, bareB, h2]), hX.out.2⟩
          subst h2
          by_cases h3 : a3 = 0
          rotate_left
          · have q3 : (a3 != 0) = true := by simpa using h3
            go_wp2_with fail
            go_ret
            exact ⟨ret_bool (by rw [hkids.out]; simp [okH_6, bareB, h3]), hX.out.2⟩
          subst h3
          cases h4 : a4.toList.isEmpty
          · go_wp2_with fail
            go_ret
            exact ⟨ret_bool (by rw [hkids.out]; simp [okH_6, bareB, h4]), hX.out.2⟩
          cases hq : (len : Int) == 1
          · have hq2 : ¬ (len : Int) = 1 := by simpa using hq
            go_wp2_with fail
            go_ret
            exact ⟨ret_bool (by rw [hkids.out]; simp [okH_6, bareB, h4, hq, hq2]; try omega), hX.out.2⟩
          have hq2 : (len : Int) = 1 := by simpa using hq
          have hq3 : len = 1 := by omega
          have hq3 := hid hq3
          clear hq2
          cases hs0 : a5.toList == [45]
          rotate_left
          · go_wp2_with fail
            go_ret
            exact ⟨ret_bool (by rw [hkids.out, okH_6, una_or]; simp [bareB, h4, hq3.out, hs0]), hX.out.2⟩
          cases hs1 : a5.toList == [33]
          rotate_left
          · go_wp2_with fail
            go_ret
            exact ⟨ret_bool (by rw [hkids.out, okH_6, una_or]; simp [bareB, h4, hq3.out, hs0, hs1]), hX.out.2⟩
          cases hs2 : a5.toList == [126]
          rotate_left
          · go_wp2_with fail
            go_ret
            exact ⟨ret_bool (by rw [hkids.out, okH_6, una_or]; simp [bareB, h4, hq3.out, hs0, hs1, hs2]), hX.out.2⟩
          go_wp2_with fail
          go_ret
          exact ⟨ret_bool (by rw [hkids.out, okH_6, una_or]; simp [bareB, h4, hq3.out, hs0, hs1, hs2]), hX.out.2⟩
        by_cases h7 : a1 = 7
        · subst h7
          by_cases h2 : a2 = 0
          rotate_left
          · have q2 : (a2 != 0) = true := by simpa using h2
            go_wp2_with fail
            go_ret
            exact ⟨ret_bool (by rw [hkids.out]; simp [okH_7, bareB, h2]), hX.out.2⟩
          subst h2
          by_cases h3 : a3 = 0
          rotate_left
          · have q3 : (a3 != 0) = true := by simpa using h3
            go_wp2_with fail
            go_ret
            exact ⟨ret_bool (by rw [hkids.out]; simp [okH_7, bareB, h3]), hX.out.2⟩
          subst h3
          cases h4 : a4.toList.isEmpty
          · go_wp2_with fail
            go_ret
            exact ⟨ret_bool (by rw [hkids.out]; simp [okH_7, bareB, h4]), hX.out.2⟩
          cases hq : (len : Int) == 2
          · have hq2 : ¬ (len : Int) = 2 := by simpa using hq
            go_wp2_with fail
            go_ret
            exact ⟨ret_bool (by rw [hkids.out]; simp [okH_7, bareB, h4, hq, hq2]; try omega), hX.out.2⟩
          have hq2 : (len : Int) = 2 := by simpa using hq
          have hq3 : len = 2 := by omega
          have hq3 := hid hq3
          clear hq2
          have hcf := hid (level70 a5 wr)
          go_wp2_with fail
          refine hcf.out.mono ?_
          rintro e w3 ⟨⟨r, rfl, hr⟩, hw⟩
          subst w3
          have hr2 := hid hr
          clear hr hcf
          go_wp2_with fail
          go_ret
          exact ⟨ret_bool (by rw [hkids.out, okH_7, ← hr2.out]; simp [bareB, h4, hq3.out]), hX.out.2⟩
        by_cases h8 : a1 = 8
        · subst h8
          by_cases h2 : a2 = 0
          rotate_left
          · have q2 : (a2 != 0) = true := by simpa using h2
            go_wp2_with fail
            go_ret
            exact ⟨ret_bool (by rw [hkids.out]; simp [okH_8, bareB, h2]), hX.out.2⟩
          subst h2
          cases h5 : a5.toList.isEmpty
          · go_wp2_with fail
            go_ret
            exact ⟨ret_bool (by rw [hkids.out]; simp [okH_8, bareB, h5]), hX.out.2⟩
          cases h4 : a4.toList.isEmpty
          · go_wp2_with fail
            go_ret
            exact ⟨ret_bool (by rw [hkids.out]; simp [okH_8, bareB, h5, h4]), hX.out.2⟩
          cases hq : (len : Int) == 1
          · have hq2 : ¬ (len : Int) = 1 := by simpa using hq
            go_wp2_with fail
            go_ret
            exact ⟨ret_bool (by rw [hkids.out]; simp [okH_8, bareB, h5, h4, hq, hq2]; try omega), hX.out.2⟩
          have hq2 : (len : Int) = 1 := by simpa using hq
          have hq3 : len = 1 := by omega
          have hq3 := hid hq3
          clear hq2
          have hcf := hid (typeMay17 a3 wr)
          go_wp2_with fail
          refine hcf.out.mono ?_
          rintro e w3 ⟨rfl, hw⟩
          subst w3
          go_wp2_with fail
          go_ret
          exact ⟨ret_bool (by rw [hkids.out]; simp [okH_8, bareB, h5, h4, hq3.out]), hX.out.2⟩
        have q1 : (a1 == 1) = false := by simpa using h1
        have q2 : (a1 == 2) = false := by simpa using h2
        have q3 : (a1 == 3) = false := by simpa using h3
        have q4 : (a1 == 4) = false := by simpa using h4
        have q5 : (a1 == 5) = false := by simpa using h5
        have q6 : (a1 == 6) = false := by simpa using h6
        have q7 : (a1 == 7) = false := by simpa using h7
        have q8 : (a1 == 8) = false := by simpa using h8
        have r1 : (a1 != 1) = true := by simpa using h1
        have r2 : (a1 != 2) = true := by simpa using h2
        have r8 : (a1 != 8) = true := by simpa using h8
        have hnone := hid (okH_0 a0 a1 a2 a3 a4 a5 len ⟨h1, h2, h3, h4, h5, h6, h7, h8⟩)
        clear h1 h2 h3 h4 h5 h6 h7 h8
        cases g2 : a2 != 0
        rotate_left
        · go_wp2_with fail
          go_ret
          exact ⟨ret_bool (by rw [hkids.out]; exact hnone.out.symm), hX.out.2⟩
        cases g3 : a3 != 0
        rotate_left
        · go_wp2_with fail
          go_ret
          exact ⟨ret_bool (by rw [hkids.out]; exact hnone.out.symm), hX.out.2⟩
        cases g5 : a5.toList.isEmpty
        · go_wp2_with fail
          go_ret
          exact ⟨ret_bool (by rw [hkids.out]; exact hnone.out.symm), hX.out.2⟩
        cases g4 : a4.toList.isEmpty
        · go_wp2_with fail
          go_ret
          exact ⟨ret_bool (by rw [hkids.out]; exact hnone.out.symm), hX.out.2⟩
        go_wp2_with fail
        go_ret
        exact ⟨ret_bool (by rw [hkids.out]; exact hnone.out.symm), hX.out.2⟩
      | cons h' kids' rest =>
        simp only [Exs.len, Exs.sz] at hk hz
        obtain ⟨hw1, hw2, hw3⟩ := hrw
        obtain ⟨⟨⟨t', y0, _⟩, y1, y2, y3, y4, y5⟩, ⟨u, y6, hu⟩, hR⟩ := hr.cons
        have x0 := cell_on y0 hb
        have x1 := cell_on y1 hb
        have x2 := cell_on y2 hb
        have x3 := cell_on y3 hb
        have x4 := cell_on y4 hb
        have x5 := cell_on y5 hb
        have x6 := cell_on y6 hb
        have hkk : k < len := by omega
        have hka2 : ka = some ⟨b, off, none⟩ := by rcases hka with q | q; (· omega); (· exact q.1)
        subst hka2
        obtain ⟨ua, uc, rfl⟩ : ∃ a c, u = .slice a kids'.len c := by obtain ⟨a, _, _, c, e, _⟩ := hu; exact ⟨a, c, e⟩
        have hCall := hid (IH.out t' h' kids' (.slice ua kids'.len uc) wr (by have := hS.out; omega) (by have := hS.out; omega) hw1 hw2 (hu.mono hb))
        have hRR := hid (And.intro hR (And.intro hz hw3))
        clear hka hr hu hR hz hb y0 y1 y2 y3 y4 y5 y6 hbx hok hw1 hw2 hw3
        go_wp2_with fail
        refine hCall.out.mono ?_
        rintro e w2 ⟨rfl, hb2⟩
        have hX2 := hid (And.intro (hX.out.1.on (grown_of_below hb2) (by simp)) (hX.out.2.trans (hb2.mono hX.out.2.size)))
        clear hb2 hCall x0 x1 x2 x3 x4 x5 x6 p0 p1 p2 p3 p4 p5 p6 pl
        cases hh : okE kids' && okH h' kids'.len
        · have hE : Hid (okE kids = false) := hid (by rw [hOK.out]; simp only [okE, hh]; rfl)
          go_wp2_with fail
          go_ret
          exact ⟨ret_bool (by rw [hE.out]; rfl), hX2.out.2⟩
        · have hE : Hid (okE kids = okE rest) := hid (by rw [hOK.out]; simp only [okE, hh]; rfl)
          go_wp2_with fail
          go_roundw
          case rel => exact ⟨k + 1, rest, rfl, by omega, by go_num, hRR.out.1, by have := hRR.out.2.1; omega, hRR.out.2.2, hE.out, hX2.out.1, hX2.out.2⟩
          case measure => simp [intOf]; omega

end Go.Proofs.YtecpkadjnecbiaaGreatDoor
