/- Walks: statements that may be, one by one, of the document. No condition. -/
import Derived.Test.YtecpkadjnecbiaaGreatDoorProg
import Derived.Test.YtecpkadjnecbiaaGreatDoorChkH
import Derived.Outline
namespace Go.Proofs.YtecpkadjnecbiaaGreatDoor
open Go.RowKit
set_option linter.unusedVariables false
set_option linter.unusedSimpArgs false

open Go.Shelf

theorem app_beq (l m : List UInt8) (c : UInt8) : (l ++ [c] == m ++ [c]) = (l == m) := by
  rw [Bool.eq_iff_iff]
  simp
theorem app_toList (a : ByteArray) : (a ++ (⟨#[61]⟩ : ByteArray)).toList = a.toList ++ [61] := by
  rw [ByteArray.toList_eq, ByteArray.toList_eq, ByteArray.data_append]
  simp
theorem sets_or (s : ByteArray) : inList setsL s = (s.toList == [] || s.toList == [43] || s.toList == [45] || s.toList == [42] || s.toList == [47] || s.toList == [37] || s.toList == [38] || s.toList == [124] || s.toList == [94] || s.toList == [60, 60] || s.toList == [62, 62]) := by
  simp only [inList, setsL, List.any_cons, List.any_nil, lit_toList, Bool.or_assoc, Bool.or_false]
theorem setEq_app (a : ByteArray) : inList setEqL (a ++ (⟨#[61]⟩ : ByteArray)) = inList setsL a := by
  rw [setEq_or, sets_or, app_toList]
  have h := app_beq a.toList
  rw [show (a.toList ++ [61] == [61]) = (a.toList == []) from h [] 61, show (a.toList ++ [61] == [43, 61]) = (a.toList == [43]) from h [43] 61, show (a.toList ++ [61] == [45, 61]) = (a.toList == [45]) from h [45] 61, show (a.toList ++ [61] == [42, 61]) = (a.toList == [42]) from h [42] 61, show (a.toList ++ [61] == [47, 61]) = (a.toList == [47]) from h [47] 61, show (a.toList ++ [61] == [37, 61]) = (a.toList == [37]) from h [37] 61, show (a.toList ++ [61] == [38, 61]) = (a.toList == [38]) from h [38] 61, show (a.toList ++ [61] == [124, 61]) = (a.toList == [124]) from h [124] 61, show (a.toList ++ [61] == [94, 61]) = (a.toList == [94]) from h [94] 61, show (a.toList ++ [61] == [60, 60, 61]) = (a.toList == [60, 60]) from h [60, 60] 61, show (a.toList ++ [61] == [62, 62, 61]) = (a.toList == [62, 62]) from h [62, 62] 61]
theorem setSign50' (a : ByteArray) (hs : a.size ≤ 1048576) (w : World) : Calls Tryz.prog 50 #[.string (a ++ (⟨#[61]⟩ : ByteArray))] w fun e w' => (∃ r : ByteArray, e = .returned (.tuple #[.string r, .bool (inList setsL a)])) ∧ w' = w := by
  have h := setSign50 (a ++ (⟨#[61]⟩ : ByteArray)) (by rw [ByteArray.size_append]; exact Nat.le_add_left _ _) (by rw [ByteArray.size_append]; show a.size + 1 ≤ _; omega) w
  rw [setEq_app] at h
  exact h
def Sts20 (n : Nat) : Prop := ∀ (l : Sts) (v : Value) (w : World), l.sz < n → l.sz ≤ 100000000 → l.Wf → SlS w false none l v → Calls Tryz.prog 20 #[v] w fun e w' => e = .returned (.bool (okS l)) ∧ Below w.heap.size w w'
set_option maxRecDepth 100000 in
set_option maxHeartbeats 16000000 in
theorem may37 (n : Nat) (IH : Hid (Sts20 n)) (t a1 : Int) (a2 : ByteArray) (a3 : Int) (a4 : ByteArray) (x : Exs) (body els : Sts) (vx vb ve : Value) (w : World) (hn : body.sz < n ∧ els.sz < n) (hs : x.sz ≤ 100000000 ∧ body.sz ≤ 100000000 ∧ els.sz ≤ 100000000)
    (hwf : a2.size ≤ 1048576 ∧ a4.size ≤ 1048576) (hwx : x.Wf) (hwb : body.Wf) (hwe : els.Wf) (hx : SlE w false none x vx) (hbd : SlS w false none body vb) (he : SlS w false none els ve) :
    Calls Tryz.prog 37 #[aggS t ⟨t, a1, a2, a3, a4⟩ vx vb ve] w fun e w' => e = .returned (.bool (okE x && (okS body && (okS els && okSH ⟨t, a1, a2, a3, a4⟩ x.len x.fk body.len els.len)))) ∧ Below w.heap.size w w' := by
  obtain ⟨xa, xc, rfl⟩ := hx.shape'
  obtain ⟨ba, bc, rfl⟩ := hbd.shape'
  obtain ⟨ea, ec, rfl⟩ := he.shape'
  obtain ⟨xb, xo, hxa, hxin⟩ : ∃ xb xo, (x.len = 0 ∨ xa = some ⟨xb, xo, none⟩) ∧ ExsIn w false none x xb xo 0 := by
    obtain ⟨ka', kb, koff, kcap, hv, y2, y3⟩ := hx
    cases hv
    exact ⟨kb, koff, y2.imp And.left And.left, y3⟩
  have hxl := x.len_le
  have hbl := body.len_le
  have hel := els.len_le
  obtain ⟨nx, hnx⟩ : ∃ m, m = x.len := ⟨_, rfl⟩
  obtain ⟨nb, hnb⟩ : ∃ m, m = body.len := ⟨_, rfl⟩
  obtain ⟨ne, hne⟩ : ∃ m, m = els.len := ⟨_, rfl⟩
  have hF := hid hx.first.2
  rw [← hnx] at hxa hxl hF ⊢
  rw [← hnb] at hbl ⊢
  rw [← hne] at hel ⊢
  have hLen := hid hnx
  have hS := hid (And.intro hn hs)
  have hW := hid hwf
  have hXW := hid (And.intro hwx (And.intro hwb hwe))
  have hT := hid (And.intro hbd he)
  have hXI := hid hxin
  have h1 : nx ≤ 100000000 := by omega
  have h2 : nb ≤ 100000000 := by omega
  have h3 : ne ≤ 100000000 := by omega
  have hT2 : Hid (SlS w false none body (.slice ba nb bc) ∧ SlS w false none els (.slice ea ne ec)) := hid (by rw [hnb, hne]; exact hT.out)
  obtain ⟨fk, hfk⟩ : ∃ q, q = x.fk := ⟨_, rfl⟩
  rw [← hfk] at hF ⊢
  have hX0 := hid (And.intro (Bx.new w #[.int .i64 t, .int .u8 a1, .string a2, .int .u8 a3, .string a4, .slice xa nx xc, .slice ba nb bc, .slice ea ne ec] 60) ((Below.refl w.heap.size w).alloc (Nat.le_refl _) (.cells #[.int .i64 t, .int .u8 a1, .string a2, .int .u8 a3, .string a4, .slice xa nx xc, .slice ba nb bc, .slice ea ne ec] 60)))
  clear hxl hbl hel hnx hnb hne hn hs hwf hwx hwb hwe hx hbd he hxin hT hfk
  go_enter Tryz.func37, Tryz.ntmps37
  go_wp2_with fail
  go_loopw [2, 3] (fun z i wr => ∃ (k : Nat) (r : Exs), z = .bool false ∧ k + r.len = nx ∧ i = .int .i64 k ∧ ExsIn w false none r xb xo k ∧ r.sz ≤ x.sz ∧ r.Wf ∧ okE x = okE r ∧ Bx wr w.heap.size #[.int .i64 t, .int .u8 a1, .string a2, .int .u8 a3, .string a4, .slice xa nx xc, .slice ba nb bc, .slice ea ne ec] 60 ∧ Below w.heap.size w wr) (fun _ i _ => nx - (intOf i).toNat)
  case atStart => exact ⟨0, x, rfl, by have := hLen.out; omega, rfl, hXI.out, Nat.le_refl _, hXW.out.1, rfl, hX0.out.1, hX0.out.2⟩
  case round =>
    clear hXI hX0
    obtain ⟨k, r, rfl, hk, rfl, hr, hz, hrw, hok, hbx, hb⟩ := hrel
    have hX := hid (And.intro hbx hb)
    have hOK := hid hok
    have p0 := hX.out.1.cell 0
    have p1 := hX.out.1.cell 1
    have p2 := hX.out.1.cell 2
    have p3 := hX.out.1.cell 3
    have p4 := hX.out.1.cell 4
    have p5 := hX.out.1.cell 5
    have p6 := hX.out.1.cell 6
    have p7 := hX.out.1.cell 7
    simp at p0 p1 p2 p3 p4 p5 p6 p7
    cases r with
    | cons h' kids' rest =>
      simp only [Exs.len, Exs.sz] at hk hz
      obtain ⟨hw1, hw2, hw3⟩ := hrw
      obtain ⟨⟨⟨t', y0, _⟩, y1, y2, y3, y4, y5⟩, ⟨u, y6, hu⟩, hR⟩ := hr.cons
      have x0 := cell_on y0 hb
      have x1 := cell_on y1 hb
      have x2 := cell_on y2 hb
      have x3 := cell_on y3 hb
      have x4 := cell_on y4 hb
      have x5 := cell_on y5 hb
      have x6 := cell_on y6 hb
      have hkk : k < nx := by omega
      have hka2 : xa = some ⟨xb, xo, none⟩ := by rcases hxa with q | q; (· omega); (· exact q)
      subst hka2
      obtain ⟨ua, uc, rfl⟩ := hu.shape'
      have hCall := hid (may49 _ t' h' kids' (.slice ua kids'.len uc) wr (Nat.lt_succ_self _) (by have := hS.out; omega) hw1 hw2 (hu.mono hb))
      have hRR := hid (And.intro hR (And.intro hz hw3))
      clear hxa hr hu hR hz hb y0 y1 y2 y3 y4 y5 y6 hbx hok hw1 hw2 hw3
      go_wp2_with fail
      refine hCall.out.mono ?_
      rintro e w2 ⟨rfl, hb2⟩
      have hX2 := hid (And.intro (hX.out.1.on (grown_of_below hb2) (by simp)) (hX.out.2.trans (hb2.mono hX.out.2.size)))
      clear hb2 hCall x0 x1 x2 x3 x4 x5 x6 p0 p1 p2 p3 p4 p5 p6 p7
      cases hh : okE kids' && okH h' kids'.len
      · have hE : Hid (okE x = false) := hid (by rw [hOK.out]; simp only [okE, hh]; rfl)
        go_wp2_with fail
        go_ret
        exact ⟨ret_bool (by rw [hE.out]; rfl), hX2.out.2⟩
      · have hE : Hid (okE x = okE rest) := hid (by rw [hOK.out]; simp only [okE, hh]; rfl)
        go_wp2_with fail
        go_roundw
        case rel => exact ⟨k + 1, rest, rfl, by omega, by go_num, hRR.out.1, by have := hRR.out.2.1; omega, hRR.out.2.2, hE.out, hX2.out.1, hX2.out.2⟩
        case measure => simp [intOf]; omega
    | nil =>
      simp only [Exs.len, Nat.add_zero] at hk
      subst k
      clear hr hz hrw hok hbx hb
      have hkx : Hid (okE x = true) := hOK
      have hCall := hid (IH.out body (.slice ba nb bc) wr hS.out.1.1 hS.out.2.2.1 hXW.out.2.1 (hT2.out.1.mono hX.out.2))
      go_wp2_with fail
      refine hCall.out.mono ?_
      rintro e w2 ⟨rfl, hb2⟩
      have hX2 := hid (And.intro (hX.out.1.on (grown_of_below hb2) (by simp)) (hX.out.2.trans (hb2.mono hX.out.2.size)))
      clear hb2 hCall p0 p1 p2 p3 p4 p5 p6 p7 hX
      have p7 := hX2.out.1.cell 7
      simp at p7
      cases g1 : okS body
      · have g1' := hid g1
        go_wp2_with fail
        go_ret
        exact ⟨ret_bool (by rw [hkx.out, g1'.out]; rfl), hX2.out.2⟩
      have g1' := hid g1
      clear g1
      have hCall := hid (IH.out els (.slice ea ne ec) w2 hS.out.1.2 hS.out.2.2.2 hXW.out.2.2 (hT2.out.2.mono hX2.out.2))
      go_wp2_with fail
      refine hCall.out.mono ?_
      rintro e w3 ⟨rfl, hb3⟩
      have hX3 := hid (And.intro (hX2.out.1.on (grown_of_below hb3) (by simp)) (hX2.out.2.trans (hb3.mono hX2.out.2.size)))
      clear hb3 hCall p7 hX2
      cases g2 : okS els
      · have g2' := hid g2
        go_wp2_with fail
        go_ret
        exact ⟨ret_bool (by rw [hkx.out, g1'.out, g2'.out]; rfl), hX3.out.2⟩
      have hG : Hid (∀ z, (okE x && (okS body && (okS els && z))) = z) := hid (fun z => by rw [hkx.out, g1'.out, g2]; rfl)
      have p0 := hX3.out.1.cell 0
      have p1 := hX3.out.1.cell 1
      have p2 := hX3.out.1.cell 2
      have p3 := hX3.out.1.cell 3
      have p4 := hX3.out.1.cell 4
      have p5 := hX3.out.1.cell 5
      have p6 := hX3.out.1.cell 6
      have p7 := hX3.out.1.cell 7
      simp at p0 p1 p2 p3 p4 p5 p6 p7
      clear g1' g2 hkx hOK hT2 hXW IH
      by_cases q1 : a1 = 1
      · subst q1
        cases h4 : a2.toList.isEmpty
        rotate_left
        · have hno := hid (nameOk_empty h4)
          go_wp2_with fail
          go_ret
          exact ⟨ret_bool (by rw [hG.out]; simp [okSH_1, plainS, hno.out]), hX3.out.2⟩
        have hcf := hid (name16 a2 w3 hW.out.1)
        go_wp2_with fail
        refine hcf.out.mono ?_
        rintro e w4 ⟨rfl, hb4⟩
        have hX4 := hid (And.intro (hX3.out.1.on (grown_of_below hb4) (by simp)) (hX3.out.2.trans (hb4.mono hX3.out.2.size)))
        clear hb4 hcf p0 p1 p2 p3 p4 p5 p6 p7
        have p0 := hX4.out.1.cell 0
        have p1 := hX4.out.1.cell 1
        have p2 := hX4.out.1.cell 2
        have p3 := hX4.out.1.cell 3
        have p4 := hX4.out.1.cell 4
        have p5 := hX4.out.1.cell 5
        have p6 := hX4.out.1.cell 6
        have p7 := hX4.out.1.cell 7
        simp at p0 p1 p2 p3 p4 p5 p6 p7
        cases hno : nameOk a2
        · go_wp2_with fail
          go_ret
          exact ⟨ret_bool (by rw [hG.out]; simp [okSH_1, plainS, hno]), hX4.out.2⟩
        by_cases hez : ne = 0
        rotate_left
        · have hez2 : (0 : Int) < ne := by omega
          go_wp2_with fail
          go_ret
          exact ⟨ret_bool (by rw [hG.out]; simp [okSH_1, plainS, hno, hez]), hX4.out.2⟩
        subst hez
        by_cases hbz : nb = 0
        rotate_left
        · have hbz2 : (0 : Int) < nb := by omega
          go_wp2_with fail
          go_ret
          exact ⟨ret_bool (by rw [hG.out]; simp [okSH_1, plainS, hno, hbz]), hX4.out.2⟩
        subst hbz
        have ha4 : a4.size ≤ 1048576 := hW.out.2
        have hcf := hid (setSign50' a4 hW.out.2 w4)
        go_wp2_with fail
        refine hcf.out.mono ?_
        rintro e w5 ⟨⟨sr, rfl⟩, hw⟩
        subst w5
        clear hcf
        cases h5 : a4.toList.isEmpty
        · cases hs5 : inList setsL a4
          · go_wp2_with fail
            go_ret
            exact ⟨ret_bool (by rw [hG.out]; simp [okSH_1, plainS, hno, h5]), hX4.out.2⟩
          go_wp2_with fail
          go_ret
          exact ⟨ret_bool (by rw [hG.out]; simp [okSH_1, plainS, hno, h5]), hX4.out.2⟩
        cases hq : (nx : Int) == 1
        · have hq2 : ¬ (nx : Int) = 1 := by simpa using hq
          go_wp2_with fail
          go_ret
          exact ⟨ret_bool (by rw [hG.out]; simp [okSH_1, plainS, hno, h5, hq, hq2]; try omega), hX4.out.2⟩
        have hq3 : nx = 1 := by have hq4 : (nx : Int) = 1 := (by simpa using hq); omega
        have hq3 := hid hq3
        have hcf := hid (typeMay17 a3 w4)
        go_wp2_with fail
        refine hcf.out.mono ?_
        rintro e w6 ⟨rfl, hw⟩
        subst w6
        go_wp2_with fail
        go_ret
        exact ⟨ret_bool (by rw [hG.out]; simp [okSH_1, plainS, hno, h5, hq3.out]), hX4.out.2⟩
      by_cases q2 : a1 = 2
      · subst q2
        cases h4 : a2.toList.isEmpty
        rotate_left
        · have hno := hid (nameOk_empty h4)
          go_wp2_with fail
          go_ret
          exact ⟨ret_bool (by rw [hG.out]; simp [okSH_2, plainS, hno.out]), hX3.out.2⟩
        have hcf := hid (name16 a2 w3 hW.out.1)
        go_wp2_with fail
        refine hcf.out.mono ?_
        rintro e w4 ⟨rfl, hb4⟩
        have hX4 := hid (And.intro (hX3.out.1.on (grown_of_below hb4) (by simp)) (hX3.out.2.trans (hb4.mono hX3.out.2.size)))
        clear hb4 hcf p0 p1 p2 p3 p4 p5 p6 p7
        have p0 := hX4.out.1.cell 0
        have p1 := hX4.out.1.cell 1
        have p2 := hX4.out.1.cell 2
        have p3 := hX4.out.1.cell 3
        have p4 := hX4.out.1.cell 4
        have p5 := hX4.out.1.cell 5
        have p6 := hX4.out.1.cell 6
        have p7 := hX4.out.1.cell 7
        simp at p0 p1 p2 p3 p4 p5 p6 p7
        cases hno : nameOk a2
        · go_wp2_with fail
          go_ret
          exact ⟨ret_bool (by rw [hG.out]; simp [okSH_2, plainS, hno]), hX4.out.2⟩
        by_cases h3z : a3 = 0
        rotate_left
        · have r3 : (a3 != 0) = true := by simpa using h3z
          go_wp2_with fail
          go_ret
          exact ⟨ret_bool (by rw [hG.out]; simp [okSH_2, plainS, hno, h3z]), hX4.out.2⟩
        subst h3z
        by_cases hez : ne = 0
        rotate_left
        · have hez2 : (0 : Int) < ne := by omega
          go_wp2_with fail
          go_ret
          exact ⟨ret_bool (by rw [hG.out]; simp [okSH_2, plainS, hno, hez]), hX4.out.2⟩
        subst hez
        by_cases hbz : nb = 0
        rotate_left
        · have hbz2 : (0 : Int) < nb := by omega
          go_wp2_with fail
          go_ret
          exact ⟨ret_bool (by rw [hG.out]; simp [okSH_2, plainS, hno, hbz]), hX4.out.2⟩
        subst hbz
        have ha4 : a4.size ≤ 1048576 := hW.out.2
        have hcf := hid (setSign50' a4 hW.out.2 w4)
        go_wp2_with fail
        refine hcf.out.mono ?_
        rintro e w5 ⟨⟨sr, rfl⟩, hw⟩
        subst w5
        clear hcf
        cases h5 : a4.toList.isEmpty
        · cases hs5 : inList setsL a4
          · go_wp2_with fail
            go_ret
            exact ⟨ret_bool (by rw [hG.out]; simp [okSH_2, plainS, hno, hs5]), hX4.out.2⟩
          go_wp2_with fail
          go_ret
          exact ⟨ret_bool (by rw [hG.out]; simp [okSH_2, plainS, hno, hs5]), hX4.out.2⟩
        have hs5 : inList setsL a4 = true := by rw [sets_or]; have : a4.toList = [] := List.isEmpty_iff.1 h5; simp [this]
        go_wp2_with fail
        go_ret
        exact ⟨ret_bool (by rw [hG.out]; simp [okSH_2, plainS, hno, hs5]), hX4.out.2⟩
      by_cases q3 : a1 = 3
      · subst q3
        cases h4 : a2.toList.isEmpty
        rotate_left
        · have hno := hid (nameOk_empty h4)
          go_wp2_with fail
          go_ret
          exact ⟨ret_bool (by rw [hG.out]; simp [okSH_3, plainS, hno.out]), hX3.out.2⟩
        have hcf := hid (name16 a2 w3 hW.out.1)
        go_wp2_with fail
        refine hcf.out.mono ?_
        rintro e w4 ⟨rfl, hb4⟩
        have hX4 := hid (And.intro (hX3.out.1.on (grown_of_below hb4) (by simp)) (hX3.out.2.trans (hb4.mono hX3.out.2.size)))
        clear hb4 hcf p0 p1 p2 p3 p4 p5 p6 p7
        have p0 := hX4.out.1.cell 0
        have p1 := hX4.out.1.cell 1
        have p2 := hX4.out.1.cell 2
        have p3 := hX4.out.1.cell 3
        have p4 := hX4.out.1.cell 4
        have p5 := hX4.out.1.cell 5
        have p6 := hX4.out.1.cell 6
        have p7 := hX4.out.1.cell 7
        simp at p0 p1 p2 p3 p4 p5 p6 p7
        cases hno : nameOk a2
        · go_wp2_with fail
          go_ret
          exact ⟨ret_bool (by rw [hG.out]; simp [okSH_3, plainS, hno]), hX4.out.2⟩
        by_cases h3z : a3 = 0
        rotate_left
        · have r3 : (a3 != 0) = true := by simpa using h3z
          go_wp2_with fail
          go_ret
          exact ⟨ret_bool (by rw [hG.out]; simp [okSH_3, plainS, hno, h3z]), hX4.out.2⟩
        subst h3z
        by_cases hez : ne = 0
        rotate_left
        · have hez2 : (0 : Int) < ne := by omega
          go_wp2_with fail
          go_ret
          exact ⟨ret_bool (by rw [hG.out]; simp [okSH_3, plainS, hno, hez]), hX4.out.2⟩
        subst hez
        by_cases hbz : nb = 0
        rotate_left
        · have hbz2 : (0 : Int) < nb := by omega
          go_wp2_with fail
          go_ret
          exact ⟨ret_bool (by rw [hG.out]; simp [okSH_3, plainS, hno, hbz]), hX4.out.2⟩
        subst hbz
        have ha4 : a4.size ≤ 1048576 := hW.out.2
        have hcf := hid (setSign50' a4 hW.out.2 w4)
        go_wp2_with fail
        refine hcf.out.mono ?_
        rintro e w5 ⟨⟨sr, rfl⟩, hw⟩
        subst w5
        clear hcf
        cases h5 : a4.toList.isEmpty
        · cases hs5 : inList setsL a4
          · go_wp2_with fail
            go_ret
            exact ⟨ret_bool (by rw [hG.out]; simp [okSH_3, plainS, hno, hs5]), hX4.out.2⟩
          go_wp2_with fail
          go_ret
          exact ⟨ret_bool (by rw [hG.out]; simp [okSH_3, plainS, hno, hs5]), hX4.out.2⟩
        have hs5 : inList setsL a4 = true := by rw [sets_or]; have : a4.toList = [] := List.isEmpty_iff.1 h5; simp [this]
        go_wp2_with fail
        go_ret
        exact ⟨ret_bool (by rw [hG.out]; simp [okSH_3, plainS, hno, hs5]), hX4.out.2⟩
      by_cases q4 : a1 = 4
      · subst q4
        cases h4 : a2.toList.isEmpty
        · go_wp2_with fail
          go_ret
          exact ⟨ret_bool (by rw [hG.out]; simp [okSH_4, plainS, h4]), hX3.out.2⟩
        by_cases h3z : a3 = 0
        rotate_left
        · have r3 : (a3 != 0) = true := by simpa using h3z
          go_wp2_with fail
          go_ret
          exact ⟨ret_bool (by rw [hG.out]; simp [okSH_4, plainS, h4, h3z]), hX3.out.2⟩
        subst h3z
        have ha4 : a4.size ≤ 1048576 := hW.out.2
        have hcf := hid (setSign50' a4 hW.out.2 w3)
        go_wp2_with fail
        refine hcf.out.mono ?_
        rintro e w5 ⟨⟨sr, rfl⟩, hw⟩
        subst w5
        clear hcf
        cases h5 : a4.toList.isEmpty
        · cases hs5 : inList setsL a4
          · go_wp2_with fail
            go_ret
            exact ⟨ret_bool (by rw [hG.out]; simp [okSH_4, plainS, h4, h5]), hX3.out.2⟩
          go_wp2_with fail
          go_ret
          exact ⟨ret_bool (by rw [hG.out]; simp [okSH_4, plainS, h4, h5]), hX3.out.2⟩
        go_wp2_with fail
        go_ret
        exact ⟨ret_bool (by rw [hG.out]; simp [okSH_4, plainS, h4, h5]), hX3.out.2⟩
      by_cases q5 : a1 = 5
      · subst q5
        cases h4 : a2.toList.isEmpty
        · go_wp2_with fail
          go_ret
          exact ⟨ret_bool (by rw [hG.out]; simp [okSH_5, plainS, h4]), hX3.out.2⟩
        by_cases h3z : a3 = 0
        rotate_left
        · have r3 : (a3 != 0) = true := by simpa using h3z
          go_wp2_with fail
          go_ret
          exact ⟨ret_bool (by rw [hG.out]; simp [okSH_5, plainS, h4, h3z]), hX3.out.2⟩
        subst h3z
        by_cases hez : ne = 0
        rotate_left
        · have hez2 : (0 : Int) < ne := by omega
          go_wp2_with fail
          go_ret
          exact ⟨ret_bool (by rw [hG.out]; simp [okSH_5, plainS, h4, hez]), hX3.out.2⟩
        subst hez
        have ha4 : a4.size ≤ 1048576 := hW.out.2
        have hcf := hid (setSign50' a4 hW.out.2 w3)
        go_wp2_with fail
        refine hcf.out.mono ?_
        rintro e w5 ⟨⟨sr, rfl⟩, hw⟩
        subst w5
        clear hcf
        cases h5 : a4.toList.isEmpty
        · cases hs5 : inList setsL a4
          · go_wp2_with fail
            go_ret
            exact ⟨ret_bool (by rw [hG.out]; simp [okSH_5, plainS, h4, h5]), hX3.out.2⟩
          go_wp2_with fail
          go_ret
          exact ⟨ret_bool (by rw [hG.out]; simp [okSH_5, plainS, h4, h5]), hX3.out.2⟩
        go_wp2_with fail
        go_ret
        exact ⟨ret_bool (by rw [hG.out]; simp [okSH_5, plainS, h4, h5]), hX3.out.2⟩
      by_cases q6 : a1 = 6
      · subst q6
        cases h4 : a2.toList.isEmpty
        · go_wp2_with fail
          go_ret
          exact ⟨ret_bool (by rw [hG.out]; simp [okSH_6, plainS, h4]), hX3.out.2⟩
        by_cases h3z : a3 = 0
        rotate_left
        · have r3 : (a3 != 0) = true := by simpa using h3z
          go_wp2_with fail
          go_ret
          exact ⟨ret_bool (by rw [hG.out]; simp [okSH_6, plainS, h4, h3z]), hX3.out.2⟩
        subst h3z
        by_cases hez : ne = 0
        rotate_left
        · have hez2 : (0 : Int) < ne := by omega
          go_wp2_with fail
          go_ret
          exact ⟨ret_bool (by rw [hG.out]; simp [okSH_6, plainS, h4, hez]), hX3.out.2⟩
        subst hez
        by_cases hbz : nb = 0
        rotate_left
        · have hbz2 : (0 : Int) < nb := by omega
          go_wp2_with fail
          go_ret
          exact ⟨ret_bool (by rw [hG.out]; simp [okSH_6, plainS, h4, hbz]), hX3.out.2⟩
        subst hbz
        have ha4 : a4.size ≤ 1048576 := hW.out.2
        have hcf := hid (setSign50' a4 hW.out.2 w3)
        go_wp2_with fail
        refine hcf.out.mono ?_
        rintro e w5 ⟨⟨sr, rfl⟩, hw⟩
        subst w5
        clear hcf
        cases h5 : a4.toList.isEmpty
        · cases hs5 : inList setsL a4
          · go_wp2_with fail
            go_ret
            exact ⟨ret_bool (by rw [hG.out]; simp [okSH_6, plainS, h4, h5]), hX3.out.2⟩
          go_wp2_with fail
          go_ret
          exact ⟨ret_bool (by rw [hG.out]; simp [okSH_6, plainS, h4, h5]), hX3.out.2⟩
        go_wp2_with fail
        go_ret
        exact ⟨ret_bool (by rw [hG.out]; simp [okSH_6, plainS, h4, h5]), hX3.out.2⟩
      by_cases q7 : a1 = 7
      · subst q7
        cases h4 : a2.toList.isEmpty
        · go_wp2_with fail
          go_ret
          exact ⟨ret_bool (by rw [hG.out]; simp [okSH_7, plainS, h4]), hX3.out.2⟩
        by_cases h3z : a3 = 0
        rotate_left
        · have r3 : (a3 != 0) = true := by simpa using h3z
          go_wp2_with fail
          go_ret
          exact ⟨ret_bool (by rw [hG.out]; simp [okSH_7, plainS, h4, h3z]), hX3.out.2⟩
        subst h3z
        by_cases hez : ne = 0
        rotate_left
        · have hez2 : (0 : Int) < ne := by omega
          go_wp2_with fail
          go_ret
          exact ⟨ret_bool (by rw [hG.out]; simp [okSH_7, plainS, h4, hez]), hX3.out.2⟩
        subst hez
        by_cases hbz : nb = 0
        rotate_left
        · have hbz2 : (0 : Int) < nb := by omega
          go_wp2_with fail
          go_ret
          exact ⟨ret_bool (by rw [hG.out]; simp [okSH_7, plainS, h4, hbz]), hX3.out.2⟩
        subst hbz
        have ha4 : a4.size ≤ 1048576 := hW.out.2
        have hcf := hid (setSign50' a4 hW.out.2 w3)
        go_wp2_with fail
        refine hcf.out.mono ?_
        rintro e w5 ⟨⟨sr, rfl⟩, hw⟩
        subst w5
        clear hcf
        cases h5 : a4.toList.isEmpty
        · cases hs5 : inList setsL a4
          · go_wp2_with fail
            go_ret
            exact ⟨ret_bool (by rw [hG.out]; simp [okSH_7, plainS, h4, h5]), hX3.out.2⟩
          go_wp2_with fail
          go_ret
          exact ⟨ret_bool (by rw [hG.out]; simp [okSH_7, plainS, h4, h5]), hX3.out.2⟩
        go_wp2_with fail
        go_ret
        exact ⟨ret_bool (by rw [hG.out]; simp [okSH_7, plainS, h4, h5]), hX3.out.2⟩
      by_cases q8 : a1 = 8
      · subst q8
        cases h4 : a2.toList.isEmpty
        · go_wp2_with fail
          go_ret
          exact ⟨ret_bool (by rw [hG.out]; simp [okSH_8, plainS, h4]), hX3.out.2⟩
        by_cases h3z : a3 = 0
        rotate_left
        · have r3 : (a3 != 0) = true := by simpa using h3z
          go_wp2_with fail
          go_ret
          exact ⟨ret_bool (by rw [hG.out]; simp [okSH_8, plainS, h4, h3z]), hX3.out.2⟩
        subst h3z
        by_cases hez : ne = 0
        rotate_left
        · have hez2 : (0 : Int) < ne := by omega
          go_wp2_with fail
          go_ret
          exact ⟨ret_bool (by rw [hG.out]; simp [okSH_8, plainS, h4, hez]), hX3.out.2⟩
        subst hez
        by_cases hbz : nb = 0
        rotate_left
        · have hbz2 : (0 : Int) < nb := by omega
          go_wp2_with fail
          go_ret
          exact ⟨ret_bool (by rw [hG.out]; simp [okSH_8, plainS, h4, hbz]), hX3.out.2⟩
        subst hbz
        have ha4 : a4.size ≤ 1048576 := hW.out.2
        have hcf := hid (setSign50' a4 hW.out.2 w3)
        go_wp2_with fail
        refine hcf.out.mono ?_
        rintro e w5 ⟨⟨sr, rfl⟩, hw⟩
        subst w5
        clear hcf
        cases h5 : a4.toList.isEmpty
        · cases hs5 : inList setsL a4
          · go_wp2_with fail
            go_ret
            exact ⟨ret_bool (by rw [hG.out]; simp [okSH_8, plainS, h4, h5]), hX3.out.2⟩
          go_wp2_with fail
          go_ret
          exact ⟨ret_bool (by rw [hG.out]; simp [okSH_8, plainS, h4, h5]), hX3.out.2⟩
        go_wp2_with fail
        go_ret
        exact ⟨ret_bool (by rw [hG.out]; simp [okSH_8, plainS, h4, h5]), hX3.out.2⟩
      by_cases q9 : a1 = 9
      · subst q9
        cases h4 : a2.toList.isEmpty
        · go_wp2_with fail
          go_ret
          exact ⟨ret_bool (by rw [hG.out]; simp [okSH_9, plainS, h4]), hX3.out.2⟩
        by_cases h3z : a3 = 0
        rotate_left
        · have r3 : (a3 != 0) = true := by simpa using h3z
          go_wp2_with fail
          go_ret
          exact ⟨ret_bool (by rw [hG.out]; simp [okSH_9, plainS, h4, h3z]), hX3.out.2⟩
        subst h3z
        by_cases hez : ne = 0
        rotate_left
        · have hez2 : (0 : Int) < ne := by omega
          go_wp2_with fail
          go_ret
          exact ⟨ret_bool (by rw [hG.out]; simp [okSH_9, plainS, h4, hez]), hX3.out.2⟩
        subst hez
        by_cases hbz : nb = 0
        rotate_left
        · have hbz2 : (0 : Int) < nb := by omega
          go_wp2_with fail
          go_ret
          exact ⟨ret_bool (by rw [hG.out]; simp [okSH_9, plainS, h4, hbz]), hX3.out.2⟩
        subst hbz
        have ha4 : a4.size ≤ 1048576 := hW.out.2
        have hcf := hid (setSign50' a4 hW.out.2 w3)
        go_wp2_with fail
        refine hcf.out.mono ?_
        rintro e w5 ⟨⟨sr, rfl⟩, hw⟩
        subst w5
        clear hcf
        cases h5 : a4.toList.isEmpty
        · cases hs5 : inList setsL a4
          · go_wp2_with fail
            go_ret
            exact ⟨ret_bool (by rw [hG.out]; simp [okSH_9, plainS, h4, h5]), hX3.out.2⟩
          go_wp2_with fail
          go_ret
          exact ⟨ret_bool (by rw [hG.out]; simp [okSH_9, plainS, h4, h5]), hX3.out.2⟩
        cases hq : (nx : Int) == 1
        · have hq2 : ¬ (nx : Int) = 1 := by simpa using hq
          go_wp2_with fail
          go_ret
          exact ⟨ret_bool (by rw [hG.out]; simp [okSH_9, plainS, h4, h5, hq, hq2]; try omega), hX3.out.2⟩
        have hq3 : nx = 1 := by have hq4 : (nx : Int) = 1 := (by simpa using hq); omega
        obtain ⟨fb, fo, hxa2, hc⟩ : ∃ b o, xa = some ⟨b, o, none⟩ ∧ w.cell? ⟨b, o + 1, none⟩ = some (.int .u8 fk) := by rcases hF.out with q | q; (· omega); (· exact q)
        subst hxa2
        have hc2 := cell_on hc hX3.out.2
        have hq3 := hid hq3
        clear hc
        go_wp2_with fail
        go_ret
        exact ⟨ret_bool (by rw [hG.out]; simp [okSH_9, plainS, h4, h5, hq3.out]), hX3.out.2⟩
      have s1 : (a1 == 1) = false := by simpa using q1
      have s2 : (a1 == 2) = false := by simpa using q2
      have s3 : (a1 == 3) = false := by simpa using q3
      have s4 : (a1 == 4) = false := by simpa using q4
      have s5 : (a1 == 5) = false := by simpa using q5
      have s6 : (a1 == 6) = false := by simpa using q6
      have s7 : (a1 == 7) = false := by simpa using q7
      have s8 : (a1 == 8) = false := by simpa using q8
      have s9 : (a1 == 9) = false := by simpa using q9
      have r1 : (a1 != 1) = true := by simpa using q1
      have r2 : (a1 != 2) = true := by simpa using q2
      have r3 : (a1 != 3) = true := by simpa using q3
      have r4 : (a1 != 4) = true := by simpa using q4
      have r5 : (a1 != 5) = true := by simpa using q5
      have hnone := hid (okSH_0 t a1 a2 a3 a4 nx fk nb ne ⟨q1, q2, q3, q4, q5, q6, q7, q8, q9⟩)
      clear q1 q2 q3 q4 q5 q6 q7 q8 q9
      cases h4 : a2.toList.isEmpty
      · go_wp2_with fail
        go_ret
        exact ⟨ret_bool (by rw [hG.out]; simp [hnone.out, h4]), hX3.out.2⟩
      by_cases h3z : a3 = 0
      rotate_left
      · have r3 : (a3 != 0) = true := by simpa using h3z
        go_wp2_with fail
        go_ret
        exact ⟨ret_bool (by rw [hG.out]; simp [hnone.out, h4, h3z]), hX3.out.2⟩
      subst h3z
      by_cases hez : ne = 0
      rotate_left
      · have hez2 : (0 : Int) < ne := by omega
        go_wp2_with fail
        go_ret
        exact ⟨ret_bool (by rw [hG.out]; simp [hnone.out, h4, hez]), hX3.out.2⟩
      subst hez
      by_cases hbz : nb = 0
      rotate_left
      · have hbz2 : (0 : Int) < nb := by omega
        go_wp2_with fail
        go_ret
        exact ⟨ret_bool (by rw [hG.out]; simp [hnone.out, h4, hbz]), hX3.out.2⟩
      subst hbz
      have ha4 : a4.size ≤ 1048576 := hW.out.2
      have hcf := hid (setSign50' a4 hW.out.2 w3)
      go_wp2_with fail
      refine hcf.out.mono ?_
      rintro e w5 ⟨⟨sr, rfl⟩, hw⟩
      subst w5
      clear hcf
      cases h5 : a4.toList.isEmpty
      · cases hs5 : inList setsL a4
        · go_wp2_with fail
          go_ret
          exact ⟨ret_bool (by rw [hG.out]; simp [hnone.out, h4, h5]), hX3.out.2⟩
        go_wp2_with fail
        go_ret
        exact ⟨ret_bool (by rw [hG.out]; simp [hnone.out, h4, h5]), hX3.out.2⟩
      go_wp2_with fail
      go_ret
      exact ⟨ret_bool (by rw [hG.out]; simp [hnone.out, h4, h5]), hX3.out.2⟩
set_option maxRecDepth 100000 in
set_option maxHeartbeats 4000000 in
theorem may20 : ∀ n, Sts20 n := by
  intro n
  induction n with
  | zero => intro l v w hn; omega
  | succ n ih =>
    have IH := hid ih
    clear ih
    intro l v w hn hs hwf hv
    obtain ⟨ka, b, off, c, rfl, hka, hin⟩ := hv
    have hl := l.len_le
    have hS := hid (And.intro hn hs)
    have hI := hid hin
    have hkb : l.len ≤ 100000000 := by omega
    have hW := hid hwf
    obtain ⟨len, hlen⟩ : ∃ m, m = l.len := ⟨_, rfl⟩
    rw [← hlen] at hka hl hkb ⊢
    have hLen := hid hlen
    clear hn hs hin hwf hlen
    go_enter Tryz.func20, Tryz.ntmps20
    go_wp2_with fail
    go_loopw [2, 3] (fun z i wr => ∃ (k : Nat) (r : Sts), z = .bool false ∧ k + r.len = len ∧ i = .int .i64 k ∧ StsIn w false none r b off k ∧ r.sz ≤ l.sz ∧ r.Wf ∧ okS l = okS r ∧ Below w.heap.size w wr) (fun _ i _ => len - (intOf i).toNat)
    case atStart => exact ⟨0, l, rfl, by have := hLen.out; omega, rfl, hI.out, Nat.le_refl _, hW.out, rfl, Below.refl _ _⟩
    case round =>
      clear hI
      obtain ⟨k, r, rfl, hk, rfl, hr, hz, hrw, hok, hb⟩ := hrel
      have hB := hid hb
      have hOK := hid hok
      cases r with
      | nil =>
        simp only [Sts.len, Nat.add_zero] at hk
        subst k
        clear hr hz hrw hok hb
        go_wp2_with fail
        go_ret
        exact ⟨ret_bool hOK.out.symm, hB.out⟩
      | cons h x body els rest =>
        simp only [Sts.len, Sts.sz] at hk hz
        obtain ⟨hw1, hw2, hw3, hw4, hw5⟩ := hrw
        obtain ⟨⟨⟨t, y0, _⟩, y1, y2, y3, y4⟩, ⟨vx, y5, hx⟩, ⟨vb, y6, hbd⟩, ⟨ve, y7, he⟩, hR⟩ := hr.cons
        have x0 := cell_on y0 hb
        have x1 := cell_on y1 hb
        have x2 := cell_on y2 hb
        have x3 := cell_on y3 hb
        have x4 := cell_on y4 hb
        have x5 := cell_on y5 hb
        have x6 := cell_on y6 hb
        have x7 := cell_on y7 hb
        have hkk : k < len := by omega
        have hka2 : ka = some ⟨b, off, none⟩ := by rcases hka with q | q; (· omega); (· exact q.1)
        subst hka2
        obtain ⟨xa, xc, rfl⟩ := hx.shape'
        obtain ⟨ba, bc, rfl⟩ := hbd.shape'
        obtain ⟨ea, ec, rfl⟩ := he.shape'
        obtain ⟨a0, a1, a2, a3, a4⟩ := h
        have hCall := hid (may37 n IH t a1 a2 a3 a4 x body els _ _ _ wr (by have := hS.out; omega) (by have := hS.out; omega) hw1 hw2 hw3 hw4 (hx.mono hb) (hbd.mono hb) (he.mono hb))
        have e1 : Hid (okSH ⟨t, a1, a2, a3, a4⟩ x.len x.fk body.len els.len = okSH ⟨a0, a1, a2, a3, a4⟩ x.len x.fk body.len els.len) := hid rfl
        have hRR := hid (And.intro hR (And.intro hz hw5))
        clear hka hr hR hz hb y0 y1 y2 y3 y4 y5 y6 y7 hok hw1 hw2 hw3 hw4 hw5 hx hbd he
        go_wp2_with fail
        refine hCall.out.mono ?_
        rintro e w2 ⟨rfl, hb2⟩
        have hB2 := hid (hB.out.trans (hb2.mono hB.out.size))
        clear hb2 hCall x0 x1 x2 x3 x4 x5 x6 x7
        have hE : Hid (okS (.cons ⟨a0, a1, a2, a3, a4⟩ x body els rest) = ((okE x && (okS body && (okS els && okSH ⟨t, a1, a2, a3, a4⟩ x.len x.fk body.len els.len))) && okS rest)) := hid (by
          rw [e1.out]
          simp only [okS]
          cases okE x <;> cases okS body <;> cases okS els <;> cases okSH ⟨a0, a1, a2, a3, a4⟩ x.len x.fk body.len els.len <;> cases okS rest <;> rfl)
        cases hh : (okE x && (okS body && (okS els && okSH ⟨t, a1, a2, a3, a4⟩ x.len x.fk body.len els.len)))
        · have hE2 : Hid (okS l = false) := hid (by rw [hOK.out, hE.out, hh]; rfl)
          go_wp2_with fail
          go_ret
          exact ⟨ret_bool hE2.out.symm, hB2.out⟩
        · have hE2 : Hid (okS l = okS rest) := hid (by rw [hOK.out, hE.out, hh]; rfl)
          go_wp2_with fail
          go_roundw
          case rel => exact ⟨k + 1, rest, rfl, by omega, by go_num, hRR.out.1, by have := hRR.out.2.1; omega, hRR.out.2.2, hE2.out, hB2.out⟩
          case measure => simp [intOf]; omega

end Go.Proofs.YtecpkadjnecbiaaGreatDoor
