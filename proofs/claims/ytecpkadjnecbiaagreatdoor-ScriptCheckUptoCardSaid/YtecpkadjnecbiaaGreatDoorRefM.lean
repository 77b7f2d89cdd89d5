/- Walks: one token of the reference. No condition. -/
import Derived.Test.YtecpkadjnecbiaaGreatDoorProg
import Derived.Test.YtecpkadjnecbiaaGreatDoorRefJ
import Derived.Outline
namespace Go.Proofs.YtecpkadjnecbiaaGreatDoor
open Go.RowKit
set_option linter.unusedVariables false
set_option linter.unusedSimpArgs false

open Go.Shelf
attribute [local go_sem] Oper.semAt_some

def TkQ (s : ByteArray) (p : Nat) (kd at' : Int) (txt : ByteArray) (er : Int) : Prop :=
  (er = 0 → at' = p ∧ ∃ n : Nat, txt = s.extract p n ∧ p < n ∧ n ≤ s.size) ∧ (p = 0 → startB (codeAt s 0) = true → kd = 1 ∧ er = 0 ∧ txt = s.extract 0 (stopFrom s 0)) ∧ (p = 0 → startB (codeAt s 0) = false → kd ≠ 1)
def TkQR (s : ByteArray) (p : Nat) (w : World) (e : Ending) (w' : World) : Prop :=
  (∃ (kd at' : Int) (txt : ByteArray) (en er : Int), e = .returned (.tuple #[.agg #[.int .u8 kd, .int .i64 at', .string txt], .int .i64 en, .int .i64 er]) ∧ TkQ s p kd at' txt er) ∧ Below w.heap.size w w'
theorem TkQ.plain {s : ByteArray} {p : Nat} {kd at' : Int} {txt : ByteArray} {er : Int} (hp : p < s.size) (h1 : er = 0 → at' = p ∧ ∃ n : Nat, txt = s.extract p n ∧ p < n ∧ n ≤ s.size) (hk : kd ≠ 1) (hn : startB (codeAt s p) = false) : TkQ s p kd at' txt er :=
  ⟨h1, (fun h hs => by subst h; rw [hn] at hs; cases hs), fun _ _ => hk⟩
theorem TkQ.word {s : ByteArray} {p : Nat} (hp : p < s.size) (hn : startB (codeAt s p) = true) (hw : p < stopFrom s p) : TkQ s p 1 p (s.extract p (stopFrom s p)) 0 :=
  ⟨fun _ => ⟨rfl, _, rfl, hw, (stopFrom_le s p (Nat.le_of_lt hp)).2⟩, (fun h _ => by subst h; exact ⟨rfl, rfl, rfl⟩), fun h hs => by subst h; rw [hn] at hs; cases hs⟩
theorem code_small (s : ByteArray) (p : Nat) (hp : p < s.size) (h : (s[p]'hp).toNat < 128) : codeAt s p = ((s[p]'hp).toNat : Int) := by
  have hb := by_at s p 0 hp
  have hd := dec1 s p (by have : ((s[p]'hp).toNat : Int) = by' s p 0 := hb; omega)
  have hl : lostAt s p = false := by
    cases hq : lostAt s p
    · rfl
    · have := (lost_iff s p hp).1 hq; rw [hd] at this; injection this with h1 h2; have h3 : ((s[p]'hp).toNat : Int) = by' s p 0 := hb; omega
  unfold codeAt
  rw [hl, hd]
  have h3 : ((s[p]'hp).toNat : Int) = by' s p 0 := hb
  simp only [Bool.false_eq_true, if_false]
  omega
theorem start_of_name {s : ByteArray} {p : Nat} (hp : p < s.size) (hd : digitB ((s[p]'hp).toNat : Int) = false) (hn : nameB (codeAt s p) = true) : startB (codeAt s p) = true := by
  have hc : digitB (codeAt s p) = false := by
    cases hq : digitB (codeAt s p)
    · rfl
    · exfalso
      have h0 : 48 ≤ codeAt s p ∧ codeAt s p ≤ 57 := by unfold digitB at hq; simpa using hq
      have hnb := name_byte s p hp (by omega) (by omega)
      have hb := by_at s p 0 hp
      have h3 : ((s[p]'hp).toNat : Int) = by' s p 0 := hb
      rcases Nat.lt_or_ge (s[p]'hp).toNat 128 with h | h
      · rw [code_small s p hp h] at hq
        rw [hd] at hq
        cases hq
      · rw [hn, hd] at hnb
        have h256 := (s[p]'hp).toNat_lt
        unfold plainB at hnb
        simp at hnb
        omega
  unfold nameB at hn
  unfold startB
  rw [hc] at hn
  simpa using hn
theorem not_start {s : ByteArray} {p : Nat} (hn : nameB (codeAt s p) = false) : startB (codeAt s p) = false := by
  unfold nameB at hn
  unfold startB
  simp only [Bool.or_eq_false_iff] at hn ⊢
  exact ⟨hn.1.1, hn.2⟩
set_option maxRecDepth 100000 in
set_option maxHeartbeats 4000000 in
theorem token48 (s : ByteArray) (p : Nat) (w : World) (hs : s.size ≤ 1048576) (hp : p < s.size) : Calls Tryz.prog 48 #[.string s, .int .i64 p, .slice none 0 0] w (TkQR s p w) := by
  have hX := hid (Bx.new w #[.int .u8 0, .int .i64 0, .string ⟨#[]⟩] 73)
  have hB0 := hid ((Below.refl w.heap.size w).alloc (Nat.le_refl _) (.cells #[.int .u8 0, .int .i64 0, .string ⟨#[]⟩] 73))
  have c64 := hid (digit64 ((s[p]'hp).toNat : Int) (w.alloc (.cells #[.int .u8 0, .int .i64 0, .string ⟨#[]⟩] 73)))
  have c65 := hid (figureEnd65 s p (w.alloc (.cells #[.int .u8 0, .int .i64 0, .string ⟨#[]⟩] 73)) hs hp)
  have c66 := hid (nameEnd66 s p (w.alloc (.cells #[.int .u8 0, .int .i64 0, .string ⟨#[]⟩] 73)) hs (Nat.le_of_lt hp))
  have c67 := hid (literal67 s p (w.alloc (.cells #[.int .u8 0, .int .i64 0, .string ⟨#[]⟩] 73)) hs hp)
  have c68 := hid (signAt68 s p (w.alloc (.cells #[.int .u8 0, .int .i64 0, .string ⟨#[]⟩] 73)))
  have c69 := hid (runeAt69 s p (w.alloc (.cells #[.int .u8 0, .int .i64 0, .string ⟨#[]⟩] 73)) hs hp)
  have hle := hid (stopFrom_le s p (Nat.le_of_lt hp))
  go_enter Tryz.func48, Tryz.ntmps48
  by_cases h10 : (s[p]'hp).toNat = 10
  · have hq : (((s[p]'hp).toNat : Int) == 10) = true := by simp; omega
    have hst : Hid (startB (codeAt s p) = false) := hid (by rw [code_small s p hp (by omega), h10]; decide)
    go_wp2_with fail
    exact bodyPost_ret (v := .tuple #[.agg #[.int .u8 6, .int .i64 p, .string (s.extract p (p + 1))], .int .i64 0, .int .i64 0]) (by simp [results, Tryz.results48, go_sem]) rfl ⟨⟨_, _, _, _, _, rfl, TkQ.plain hp (fun _ => ⟨rfl, p + 1, rfl, by omega, by omega⟩) (by decide) hst.out⟩, by first | exact hB0.out | exact (Below.refl _ _).alloc (Nat.le_refl _) _ | exact put3 hB0.out _ _ _⟩
  have hq : (((s[p]'hp).toNat : Int) == 10) = false := by simp; omega
  go_wp2_with fail
  refine c64.out.mono ?_
  rintro e w2 ⟨rfl, hw⟩
  subst w2
  cases hd : digitB ((s[p]'hp).toNat : Int)
  rotate_left
  · have hst : Hid (startB (codeAt s p) = false) := hid (by
      have h0 : 48 ≤ ((s[p]'hp).toNat : Int) ∧ ((s[p]'hp).toNat : Int) ≤ 57 := by unfold digitB at hd; simpa using hd
      rw [code_small s p hp (by omega)]
      unfold startB letterB
      simp
      omega)
    go_wp2_with fail
    refine c65.out.mono ?_
    rintro e w2 ⟨⟨k, rfl, hk1, hk2⟩, hw⟩
    subst w2
    go_wp2_with fail
    exact bodyPost_ret (v := .tuple #[.agg #[.int .u8 2, .int .i64 p, .string (s.extract p k)], .int .i64 0, .int .i64 0]) (by simp [results, Tryz.results48, go_sem]) rfl ⟨⟨_, _, _, _, _, rfl, TkQ.plain hp (fun _ => ⟨rfl, k, rfl, by omega, by omega⟩) (by decide) hst.out⟩, by first | exact hB0.out | exact (Below.refl _ _).alloc (Nat.le_refl _) _ | exact put3 hB0.out _ _ _⟩
  go_wp2_with fail
  refine c66.out.mono ?_
  rintro e w2 ⟨rfl, hw⟩
  subst w2
  cases hn : nameB (codeAt s p)
  rotate_left
  · have hgt := (stopFrom_gt s p hp).2 hn
    have hst := hid (start_of_name hp hd hn)
    have hle2 := hle.out.2
    go_wp2_with fail
    exact bodyPost_ret (v := .tuple #[.agg #[.int .u8 1, .int .i64 p, .string (s.extract p (stopFrom s p))], .int .i64 0, .int .i64 0]) (by simp [results, Tryz.results48, go_sem]) rfl ⟨⟨_, _, _, _, _, rfl, TkQ.word hp hst.out hgt⟩, by first | exact hB0.out | exact (Below.refl _ _).alloc (Nat.le_refl _) _ | exact put3 hB0.out _ _ _⟩
  have hst := hid (not_start hn)
  have hgt : Hid (stopFrom s p = p) := hid (stopFrom_no s p hp hn)
  clear hd hn
  rw [hgt.out]
  clear hgt hle c64 c65 c66
  by_cases hlit : (s[p]'hp).toNat = 34 ∨ (s[p]'hp).toNat = 39
  · rcases hlit with h | h
    all_goals
      have hbv : ((s[p]'hp).toNat : Int) = _ := congrArg (Nat.cast (R := Int)) h
      go_wp2_with fail
      refine c67.out.mono ?_
      rintro e w2 ⟨⟨kd, at', txt, en, er, rfl, ht⟩, hb⟩
      have hX2 := hX.out.on (grown_of_below hb) (by simp)
      have p0 := hX2.cell 0
      have p1 := hX2.cell 1
      have p2 := hX2.cell 2
      have pf := hX2.free
      have hB := hid (hB0.out.trans (hb.mono (by simp)))
      have hT := hid ht
      simp at p0 p1 p2
      clear hb hX2 c67 c68 c69 ht
      go_wp2_with fail
      exact bodyPost_ret (v := .tuple #[.agg #[.int .u8 kd, .int .i64 at', .string txt], .int .i64 en, .int .i64 er]) (by simp [results, Tryz.results48, go_sem, p0, p1, p2, pf]) rfl ⟨⟨_, _, _, _, _, rfl, TkQ.plain hp hT.out.2 hT.out.1 hst.out⟩, put3 hB.out _ _ _⟩
  have hq2 : (((s[p]'hp).toNat : Int) == 34) = false := by simp; omega
  have hq3 : (((s[p]'hp).toNat : Int) == 39) = false := by simp; omega
  go_wp2_with fail
  refine c68.out.mono ?_
  rintro e w2 ⟨rfl, hw⟩
  subst w2
  go_wp2_with fail
  refine c69.out.mono ?_
  rintro e w2 ⟨⟨r, n, rfl, hr⟩, hw⟩
  subst w2
  clear hr
  by_cases hn0 : n = 0
  · subst hn0
    go_wp2_with fail
    exact bodyPost_ret (v := .tuple #[.agg #[.int .u8 0, .int .i64 0, .string ⟨#[]⟩], .int .i64 p, .int .i64 13]) (by simp [results, Tryz.results48, go_sem]) rfl ⟨⟨_, _, _, _, _, rfl, TkQ.plain hp (fun h => absurd h (by decide)) (by decide) hst.out⟩, by first | exact hB0.out | exact (Below.refl _ _).alloc (Nat.le_refl _) _ | exact put3 hB0.out _ _ _⟩
  · have hn1 : ((n : Int) == 0) = false := by simp; omega
    go_wp2_with fail
    exact bodyPost_ret (v := .tuple #[.agg #[.int .u8 0, .int .i64 0, .string ⟨#[]⟩], .int .i64 p, .int .i64 10]) (by simp [results, Tryz.results48, go_sem]) rfl ⟨⟨_, _, _, _, _, rfl, TkQ.plain hp (fun h => absurd h (by decide)) (by decide) hst.out⟩, by first | exact hB0.out | exact (Below.refl _ _).alloc (Nat.le_refl _) _ | exact put3 hB0.out _ _ _⟩

end Go.Proofs.YtecpkadjnecbiaaGreatDoor

namespace Go.Proofs.YtecpkadjnecbiaaGreatDoor
open Go.RowKit
set_option linter.unusedVariables false
set_option linter.unusedSimpArgs false

open Go.Shelf
attribute [local go_sem] Oper.semAt_some

theorem Fine.add' {s : ByteArray} {k n : Nat} {xs : List Value} (h : Fine s k n xs) (hk : k < s.size) {kd : Int} {en : Nat} (h1 : k < en) (h2 : en ≤ s.size)
    (t1 : k = 0 → startB (codeAt s 0) = true → kd = 1 ∧ s.extract k en = s.extract 0 (stopFrom s 0)) (t2 : k = 0 → startB (codeAt s 0) = false → kd ≠ 1) : Fine s en (n + 1) (xs ++ [.int .u8 kd, .int .i64 k, .string (s.extract k en)]) where
  t := fun hq => by
    rcases h.t hq with ⟨rfl, rfl⟩ | ⟨h1, _⟩
    · simp only [oneWord, Bool.and_eq_true, beq_iff_eq, decide_eq_true_eq, codeFrom_zero, wordEnd_zero] at hq
      obtain ⟨e1, e2⟩ := t1 rfl hq.1.2
      rw [hq.2] at e2
      have e3 : en = s.size := by
        have := congrArg ByteArray.size e2
        simp at this
        omega
      subst e3
      refine .inr ⟨rfl, rfl, ?_⟩
      rw [h.z rfl, e1]
      simp
    · omega
  f := fun hq hn kd' at' txt hx ⟨hk1, hk2⟩ => by
    have hn0 : n = 0 := by omega
    rw [h.z hn0] at hx
    simp at hx
    obtain ⟨hx1, hx2, hx3⟩ := hx
    have hs : (s.extract k en).size = s.size := by rw [hx3, hk2]
    simp at hs
    have hk0 : k = 0 := by omega
    subst hk0
    have hen : en = s.size := by omega
    cases hst : startB (codeAt s 0)
    · exact t2 rfl hst (by omega)
    · obtain ⟨_, e2⟩ := t1 rfl hst
      have hle := stopFrom_le s 0 (Nat.zero_le _)
      have : oneWord s = true := by
        have hz := congrArg ByteArray.size e2
        simp at hz
        simp only [oneWord, codeFrom_zero, wordEnd_zero, hst, Bool.and_true, Bool.and_eq_true, beq_iff_eq, decide_eq_true_eq]
        omega
      rw [this] at hq
      cases hq
  z := fun h => by omega
  one := fun hn => by
    have hn0 : n = 0 := by omega
    rw [h.z hn0]
    exact ⟨_, _, _, rfl⟩
theorem Fine.pass {s : ByteArray} {p k n : Nat} {xs : List Value} (h : Fine s p n xs) (hp : PassR s p k) : Fine s k n xs := by
  obtain ⟨h1, h2, h3⟩ := hp
  rcases h3 with rfl | h3
  · exact h
  · rcases Nat.lt_or_ge p s.size with hlt | hge
    · exact h.on hlt k h3
    · have : k = p := by omega
      subst this
      exact h
set_option maxRecDepth 100000 in
set_option maxHeartbeats 4000000 in
theorem tokens35 (s : ByteArray) (w : World) (hs : s.size ≤ 1048576) : Calls Tryz.prog 35 #[.string s, .slice none 0 0] w (ToksR s w) := by
  have c46 := hid (signsMay46 w)
  have c47 := hid (passed47 s 0 w hs (Nat.zero_le _))
  go_enter Tryz.func35, Tryz.ntmps35
  go_wp2_with fail
  refine c46.out.mono ?_
  rintro e w2 ⟨rfl, hw⟩
  subst w2
  by_cases hbig : 524288 < s.size
  · go_wp2_with fail
    go_ret3
    exact ⟨⟨_, _, _, rfl, (fun h => by cases h), fun _ _ => by omega⟩, Below.refl _ _⟩
  go_wp2_with fail
  refine c47.out.mono ?_
  rintro e w2 ⟨⟨k0, rfl, hp0⟩, hw⟩
  subst w2
  have hP0 := hid hp0
  clear hp0 c46 c47
  go_wp2_with fail
  go_loopw [7, 8] (fun x y wr => ∃ (k n : Nat) (xs : List Value) (x0 : Value), x0 = x ∧ y = .int .i64 k ∧ k ≤ s.size ∧ n ≤ k ∧ wr.ownsRow w.heap.size 73 3 x0 n xs ∧ Fine s k n xs ∧ Below w.heap.size w wr) (fun _ y _ => s.size - (intOf y).toNat)
  case atStart => exact ⟨k0, 0, [], _, rfl, rfl, hP0.out.2.1, by omega, World.ownsRow_nil _ _ _ _, (Fine.start s).pass hP0.out, Below.refl _ _⟩
  case round =>
    clear hP0
    obtain ⟨k, n, xs, x0, rfl, rfl, hk, hnk, hown, hF, hb⟩ := hrel
    have hO := hid hown
    have hF' := hid hF
    have hB := hid hb
    clear hown hF hb
    by_cases hlt : k < s.size
    rotate_left
    · obtain rfl : k = s.size := by omega
      go_wp2_with fail
      go_ret3
      exact ⟨⟨_, _, _, rfl, fun _ => ⟨n, xs, hO.out, hF'.out⟩, fun h => absurd rfl h⟩, hB.out⟩
    have c48 := hid (token48 s k wr hs hlt)
    go_wp2_with fail
    refine c48.out.mono ?_
    rintro e w2 ⟨⟨kd, at', txt, en, er, rfl, ht⟩, hb2⟩
    have hO2 := hid (ownsRow_on hO.out hb2)
    have hB2 := hid (hB.out.trans (hb2.mono hB.out.size))
    have ht' := hid ht
    clear hb2 ht c48
    by_cases her : er = 0
    rotate_left
    · have hq5 : (er != 0) = true := by simpa using her
      go_wp2_with fail
      go_ret3
      refine ⟨⟨_, _, _, rfl, (fun h => absurd h her), fun _ hq => ?_⟩, hB2.out.alloc hB2.out.size _⟩
      exfalso
      rcases hF'.out.t hq with ⟨rfl, _⟩ | ⟨h1, _⟩
      · simp only [oneWord, Bool.and_eq_true, codeFrom_zero] at hq
        exact her (ht'.out.2.1 rfl hq.1.2).2.1
      · omega
    subst her
    obtain ⟨hat, m, htx, h1, h2⟩ := ht'.out.1 rfl
    subst hat
    subst htx
    have hF2 := hid (hF'.out.add' hlt h1 h2 (fun h hs => ⟨(ht'.out.2.1 h hs).1, (ht'.out.2.1 h hs).2.2⟩) ht'.out.2.2)
    have hsz2 : w.heap.size ≤ w2.heap.size := hB2.out.size
    have hX := hid (Bx.new w2 #[.int .u8 kd, .int .i64 k, .string (s.extract k m)] 73)
    have hne : Hid (some w2.heap.size ≠ x0.ownBlock) := hid (fun e => by have := hO2.out.lt _ e.symm; omega)
    have hO3 := hid (hO2.out.alloc (.cells #[.int .u8 kd, .int .i64 k, .string (s.extract k m)] 73))
    have hB3 := hid (hB2.out.alloc hsz2 (.cells #[.int .u8 kd, .int .i64 k, .string (s.extract k m)] 73))
    obtain ⟨w4, hw4⟩ : ∃ w4, w4 = w2.alloc (.cells #[.int .u8 kd, .int .i64 k, .string (s.extract k m)] 73) := ⟨_, rfl⟩
    have hsz4 : w.heap.size ≤ w4.heap.size := by rw [hw4]; simp; omega
    go_wp2_with (at_builtin; go_must (refine wpList_append_str rfl (.tmp 36) (.tmp 38) 68 rfl w.heap.size 73 73 (.agg #[.int .u8 0, .int .i64 0, .string ⟨#[]⟩]) 3 32 1 Tryz.underlying68 (by kernel_rfl) rfl (by decide) _ n _ [.int .u8 kd, .int .i64 k, .string (s.extract k m)] (0, 0) hO3.out rfl (by simp [Value.oneCell']) (by unfold maxLen; omega) (by omega) (by rw [← hw4]; exact hsz4) rfl (show Value.slice (some ⟨w2.heap.size + 1, 0, none⟩) 1 1 = _ by simp) ?_); intro v' w3 hA; have p2 := (hX.out.on hA.grown hne.out).cell 2; simp at p2; have hOw := hid hA.own; have hGr := hid (grown_trans (World.grownBy_alloc w2 (.cells #[.int .u8 kd, .int .i64 k, .string (s.extract k m)] 73) _) hA.grown); clear hA)
    have hB5 := hid (hB2.out.grown hGr.out hsz2 (fun q hq => (hO2.out.lt q hq).1))
    have c47 := hid (passed47 s m w3 hs h2)
    have hadd : (k : Int) + ((m : Int) - k) = m := by omega
    have hz : (s.extract k m).size = m - k := by simp; omega
    clear hX hO3 hB3 hne hO2
    go_wp2_with fail
    rw [show ((k : Int) + ((m - k : Nat) : Int)) = (m : Int) by omega]
    refine c47.mono ?_
    rintro e w5 ⟨⟨j, rfl, hpj⟩, hw⟩
    subst w5
    have hF3 := hid (hF2.out.pass hpj)
    have hj1 : m ≤ j := hpj.1
    have hj2 : j ≤ s.size := hpj.2.1
    clear hpj c47 hF2 hF' ht'
    go_wp2_with fail
    go_roundw
    case rel => exact ⟨j, n + 1, _, v', rfl, rfl, hj2, by omega, hOw.out, hF3.out, hB5.out⟩
    case measure => simp [intOf]; omega
theorem lit_toList (l : List UInt8) : (⟨l.toArray⟩ : ByteArray).toList = l := by rw [ByteArray.toList_eq]
theorem inList_res (s : ByteArray) : inList resL s = (s.toList == [118, 97, 114] || s.toList == [105, 110, 116] || s.toList == [102, 108, 111, 97, 116] || s.toList == [104, 111, 115, 116] || s.toList == [102, 117, 110, 99] || s.toList == [111, 112, 101, 110] || s.toList == [105, 102] || s.toList == [101, 108, 115, 101] || s.toList == [119, 104, 105, 108, 101] || s.toList == [98, 114, 101, 97, 107] || s.toList == [99, 111, 110, 116, 105, 110, 117, 101] || s.toList == [114, 101, 116, 117, 114, 110] || false) := by
  simp only [inList, resL, List.any_cons, List.any_nil, lit_toList, Bool.or_assoc]
set_option maxRecDepth 100000 in
set_option maxHeartbeats 4000000 in
theorem reserved36 (s : ByteArray) (w : World) : Calls Tryz.prog 36 #[.string s] w fun e w' => e = .returned (.bool (inList resL s)) ∧ w' = w := by
  go_enter Tryz.func36, Tryz.ntmps36
  cases h0 : s.toList == [118, 97, 114]
  rotate_left
  · go_wp2_with fail
    go_ret
    exact ⟨ret_bool (by rw [inList_res]; simp only [h0, Bool.false_or, Bool.true_or]), rfl⟩
  cases h1 : s.toList == [105, 110, 116]
  rotate_left
  · go_wp2_with fail
    go_ret
    exact ⟨ret_bool (by rw [inList_res]; simp only [h0, h1, Bool.false_or, Bool.true_or]), rfl⟩
  cases h2 : s.toList == [102, 108, 111, 97, 116]
  rotate_left
  · go_wp2_with fail
    go_ret
    exact ⟨ret_bool (by rw [inList_res]; simp only [h0, h1, h2, Bool.false_or, Bool.true_or]), rfl⟩
  cases h3 : s.toList == [104, 111, 115, 116]
  rotate_left
  · go_wp2_with fail
    go_ret
    exact ⟨ret_bool (by rw [inList_res]; simp only [h0, h1, h2, h3, Bool.false_or, Bool.true_or]), rfl⟩
  cases h4 : s.toList == [102, 117, 110, 99]
  rotate_left
  · go_wp2_with fail
    go_ret
    exact ⟨ret_bool (by rw [inList_res]; simp only [h0, h1, h2, h3, h4, Bool.false_or, Bool.true_or]), rfl⟩
  cases h5 : s.toList == [111, 112, 101, 110]
  rotate_left
  · go_wp2_with fail
    go_ret
    exact ⟨ret_bool (by rw [inList_res]; simp only [h0, h1, h2, h3, h4, h5, Bool.false_or, Bool.true_or]), rfl⟩
  cases h6 : s.toList == [105, 102]
  rotate_left
  · go_wp2_with fail
    go_ret
    exact ⟨ret_bool (by rw [inList_res]; simp only [h0, h1, h2, h3, h4, h5, h6, Bool.false_or, Bool.true_or]), rfl⟩
  cases h7 : s.toList == [101, 108, 115, 101]
  rotate_left
  · go_wp2_with fail
    go_ret
    exact ⟨ret_bool (by rw [inList_res]; simp only [h0, h1, h2, h3, h4, h5, h6, h7, Bool.false_or, Bool.true_or]), rfl⟩
  cases h8 : s.toList == [119, 104, 105, 108, 101]
  rotate_left
  · go_wp2_with fail
    go_ret
    exact ⟨ret_bool (by rw [inList_res]; simp only [h0, h1, h2, h3, h4, h5, h6, h7, h8, Bool.false_or, Bool.true_or]), rfl⟩
  cases h9 : s.toList == [98, 114, 101, 97, 107]
  rotate_left
  · go_wp2_with fail
    go_ret
    exact ⟨ret_bool (by rw [inList_res]; simp only [h0, h1, h2, h3, h4, h5, h6, h7, h8, h9, Bool.false_or, Bool.true_or]), rfl⟩
  cases h10 : s.toList == [99, 111, 110, 116, 105, 110, 117, 101]
  rotate_left
  · go_wp2_with fail
    go_ret
    exact ⟨ret_bool (by rw [inList_res]; simp only [h0, h1, h2, h3, h4, h5, h6, h7, h8, h9, h10, Bool.false_or, Bool.true_or]), rfl⟩
  cases h11 : s.toList == [114, 101, 116, 117, 114, 110]
  rotate_left
  · go_wp2_with fail
    go_ret
    exact ⟨ret_bool (by rw [inList_res]; simp only [h0, h1, h2, h3, h4, h5, h6, h7, h8, h9, h10, h11, Bool.false_or, Bool.true_or]), rfl⟩
  go_wp2_with fail
  go_ret
  exact ⟨ret_bool (by rw [inList_res]; simp only [h0, h1, h2, h3, h4, h5, h6, h7, h8, h9, h10, h11, Bool.false_or]), rfl⟩

end Go.Proofs.YtecpkadjnecbiaaGreatDoor

namespace Go.Proofs.YtecpkadjnecbiaaGreatDoor
open Go.RowKit
set_option linter.unusedVariables false
set_option linter.unusedSimpArgs false

open Go.Shelf
attribute [local go_sem] Oper.semAt_some

set_option maxRecDepth 100000 in
set_option maxHeartbeats 2000000 in
theorem name16 (s : ByteArray) (w : World) (hs : s.size ≤ 1048576) : Calls Tryz.prog 16 #[.string s] w fun e w' => e = .returned (.bool (nameOk s)) ∧ Below w.heap.size w w' := by
  have hcall := hid (tokens35 s w hs)
  go_enter Tryz.func16, Tryz.ntmps16
  go_wp2_with fail
  refine hcall.out.mono ?_
  rintro e w2 ⟨⟨v, en, er, rfl, h0, h1⟩, hb⟩
  have hB := hid hb
  clear hb hcall
  by_cases her : er = 0
  rotate_left
  · have hq : (er == 0) = false := by simpa using her
    have h1' := hid (h1 her)
    clear h0 h1
    go_wp2_with fail
    go_ret
    refine ⟨ret_bool ?_, hB.out⟩
    unfold nameOk
    cases ho : oneWord s
    · rfl
    · have := h1'.out ho
      have h2 : decide (s.size ≤ 32) = false := by simp; omega
      simp [h2]
  obtain ⟨n, xs, hO, hF⟩ := h0 her
  subst her
  clear h1 h0
  have hF' := hid hF
  clear hF
  have hname : Hid (n ≠ 1 → oneWord s = false) := hid (fun hn => by
    cases ho : oneWord s
    · rfl
    · rcases hF'.out.t ho with ⟨h1, _⟩ | ⟨_, h2, _⟩
      · simp only [oneWord, Bool.and_eq_true, decide_eq_true_eq] at ho; omega
      · exact absurd h2 hn)
  rcases row_forms hO with ⟨rfl, rfl⟩ | ⟨g, cap, rfl⟩
  · clear hO
    go_wp2_with fail
    go_ret
    exact ⟨ret_bool (by simp [nameOk, hname.out (by decide)]), hB.out⟩
  have hcap := hO.1
  by_cases hn : n = 1
  rotate_left
  · have hq : ((n : Int) == 1) = false := by simp; omega
    have hO' := hid hO
    clear hO hcap
    go_wp2_with fail
    go_ret
    exact ⟨ret_bool (by simp [nameOk, hname.out hn]), hB.out⟩
  subst hn
  obtain ⟨kd, at', txt, rfl⟩ := hF'.out.one rfl
  have p0 : w2.cell? ⟨g, 0, none⟩ = some (.int .u8 kd) := (hO.cellAt 0 (by decide)).trans rfl
  have p1 : w2.cell? ⟨g, 1, none⟩ = some (.int .i64 at') := (hO.cellAt 1 (by decide)).trans rfl
  have p2 : w2.cell? ⟨g, 2, none⟩ = some (.string txt) := (hO.cellAt 2 (by decide)).trans rfl
  clear hO hcap
  have hk' : Hid ((kd == 1 && txt.toList == s.toList) = oneWord s) := hid (by
    cases ho : oneWord s
    · have := hF'.out.f ho rfl kd at' txt rfl
      by_cases ht : txt = s
      · subst ht
        have : ¬ kd = 1 := fun h => this ⟨h, rfl⟩
        simp [this]
      · rw [toList_ne ht]; simp
    · rcases hF'.out.t ho with ⟨_, h2⟩ | ⟨_, _, h3⟩
      · cases h2
      · simp at h3
        simp [h3.1, h3.2.2])
  cases hk : kd == 1
  · go_wp2_with fail
    go_ret
    refine ⟨ret_bool ?_, hB.out⟩
    rw [hk] at hk'
    simp [nameOk, ← hk'.out]
  cases ht : txt.toList == s.toList
  · go_wp2_with fail
    go_ret
    refine ⟨ret_bool ?_, hB.out⟩
    rw [ht] at hk'
    simp [nameOk, ← hk'.out]
  rw [hk, ht] at hk'
  have hc2 := hid (reserved36 s w2)
  go_wp2_with fail
  refine hc2.out.mono ?_
  rintro e w3 ⟨rfl, hw⟩
  subst w3
  cases hr : inList resL s
  · go_wp2_with fail
    go_ret
    refine ⟨ret_bool ?_, hB.out⟩
    simp [nameOk, ← hk'.out, hr]
    try omega
  · go_wp2_with fail
    go_ret
    refine ⟨ret_bool ?_, hB.out⟩
    simp [nameOk, hr]

end Go.Proofs.YtecpkadjnecbiaaGreatDoor
