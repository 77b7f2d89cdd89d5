/- Walks: the tokens of a text. No condition. -/
import Derived.Test.YtecpkadjnecbiaaGreatDoorProg
import Derived.Test.YtecpkadjnecbiaaGreatDoorTokI
import Derived.WalkMore
namespace Go.Proofs.YtecpkadjnecbiaaGreatDoor
open Go.RowKit
set_option linter.unusedVariables false
set_option linter.unusedSimpArgs false

open Go.Shelf
attribute [local go_sem] Oper.semAt_some

/-- is the text one word? -/
def oneWord (s : ByteArray) : Bool := decide (0 < s.size) && startB (codeFrom s 0) && (wordEnd s 0 == s.size)
theorem byte_code (s : ByteArray) (p : Nat) (hp : p < s.size) (h : (s[p]'hp).toNat < 128) : codeFrom s p = ((s[p]'hp).toNat : Int) := by
  have hsz : (s.extract p s.size).size = s.size - p := by simp
  have hg : (s.extract p s.size).get! 0 = s[p]'hp := by
    rw [get_at (s.extract p s.size) 0 (by omega)]
    have := ByteArray.getElem_extract (b := s) (start := p) (stop := s.size) (i := 0) (by omega : 0 < (s.extract p s.size).size)
    simpa using this
  have hd : Utf8.decode (s.extract p s.size) 0 = ((s[p]'hp).toNat, 1) := by
    have h8 : ((s.extract p s.size).get! 0).toNat < 128 := by rw [hg]; exact h
    rw [← hg]
    simp [Utf8.decode, h8]
  unfold codeFrom codeAt lostAt
  rw [hd]
  have : ((s[p]'hp).toNat == 65533) = false := by simp; omega
  simp only [this, Bool.false_and]
  rfl
theorem oneWord_not (s : ByteArray) (h0 : 0 < s.size) (h : (s[0]'h0).toNat = 9 ∨ (s[0]'h0).toNat = 13 ∨ (s[0]'h0).toNat = 32 ∨ (s[0]'h0).toNat = 35) : oneWord s = false := by
  have : startB (codeFrom s 0) = false := by
    rw [byte_code s 0 h0 (by omega)]
    rcases h with h | h | h | h <;> rw [h] <;> decide
  simp [oneWord, this]
structure Fine (s : ByteArray) (k n : Nat) (xs : List Value) : Prop where
  t : oneWord s = true → (k = 0 ∧ n = 0) ∨ (k = s.size ∧ n = 1 ∧ xs = [.int .u8 1, .int .i64 0, .string s])
  f : oneWord s = false → n = 1 → ∀ (kd at' : Int) (txt : ByteArray), xs = [.int .u8 kd, .int .i64 at', .string txt] → ¬ (kd = 1 ∧ txt = s)
  z : n = 0 → xs = []
  one : n = 1 → ∃ (kd at' : Int) (txt : ByteArray), xs = [.int .u8 kd, .int .i64 at', .string txt]
theorem Fine.start (s : ByteArray) : Fine s 0 0 [] := ⟨fun _ => .inl ⟨rfl, rfl⟩, (fun _ h => by cases h), fun _ => rfl, fun h => by cases h⟩
theorem Fine.on {s : ByteArray} {k n : Nat} {xs : List Value} (h : Fine s k n xs) (hk : k < s.size) (k' : Nat) (hb : ∀ h0 : 0 < s.size, k = 0 → (s[0]'h0).toNat = 9 ∨ (s[0]'h0).toNat = 13 ∨ (s[0]'h0).toNat = 32 ∨ (s[0]'h0).toNat = 35) : Fine s k' n xs where
  t := fun hq => by
    rcases h.t hq with ⟨h1, _⟩ | ⟨h1, _⟩
    · rw [oneWord_not s (by omega) (hb (by omega) h1)] at hq; cases hq
    · omega
  f := h.f
  z := h.z
  one := h.one
theorem Fine.add {s : ByteArray} {k n : Nat} {xs : List Value} (h : Fine s k n xs) (hk : k < s.size) {kd : Int} {en : Nat} (ht : Tk s k kd en 0) (h1 : k < en) (h2 : en ≤ s.size) : Fine s en (n + 1) (xs ++ [.int .u8 kd, .int .i64 k, .string (s.extract k en)]) where
  t := fun hq => by
    rcases h.t hq with ⟨rfl, rfl⟩ | ⟨h1, _⟩
    · simp only [oneWord, Bool.and_eq_true, beq_iff_eq, decide_eq_true_eq] at hq
      obtain ⟨e1, _, e2⟩ := ht.2.1 hq.1.2
      have e3 : en = s.size := by omega
      subst e3
      refine .inr ⟨rfl, rfl, ?_⟩
      rw [h.z rfl, e1]
      simp
    · omega
  f := fun hq hn kd' at' txt hx ⟨hk1, hk2⟩ => by
    have hn0 : n = 0 := by omega
    rw [h.z hn0] at hx
    simp at hx
    obtain ⟨hx1, hx2, hx3⟩ := hx
    have hs : (s.extract k en).size = s.size := by rw [hx3, hk2]
    simp at hs
    have hk0 : k = 0 := by omega
    subst hk0
    have hen : en = s.size := by omega
    cases hst : startB (codeFrom s 0)
    · exact ht.2.2 hst (by omega)
    · obtain ⟨_, _, e2⟩ := ht.2.1 hst
      have : oneWord s = true := by
        simp only [oneWord, hst, Bool.and_true, Bool.and_eq_true, beq_iff_eq, decide_eq_true_eq]
        omega
      rw [this] at hq
      cases hq
  z := fun h => by omega
  one := fun hn => by
    have hn0 : n = 0 := by omega
    rw [h.z hn0]
    exact ⟨_, _, _, rfl⟩
/-- what 'Tokens' gives -/
def ToksR (s : ByteArray) (w : World) (e : Ending) (w' : World) : Prop :=
  (∃ (v : Value) (en er : Int), e = .returned (.tuple #[v, .int .i64 en, .int .i64 er]) ∧ (er = 0 → ∃ (n : Nat) (xs : List Value), w'.ownsRow w.heap.size 73 3 v n xs ∧ Fine s s.size n xs) ∧ (er ≠ 0 → oneWord s = true → 32 < s.size)) ∧ Below w.heap.size w w'
theorem idx_pos (s : ByteArray) (k : Nat) (hlt : k < s.size) (h : (s[k]'hlt).toNat = 35) : Lib.indexByte (s.extract k s.size).data.toList (10 : Int).toNat.toUInt8 = -1 ∨ ∃ j : Nat, Lib.indexByte (s.extract k s.size).data.toList (10 : Int).toNat.toUInt8 = j ∧ 1 ≤ j ∧ k + j < s.size := by
  have hsz : (s.extract k s.size).size = s.size - k := by simp
  have hlen : (s.extract k s.size).data.toList.length = s.size - k := by rw [← hsz]; rfl
  have hb := ByteArray.getElem_extract (b := s) (start := k) (stop := s.size) (i := 0) (by omega : 0 < (s.extract k s.size).size)
  have h2 : (s.extract k s.size).data.toList[0]? = some (s[k]'hlt) := by
    rw [List.getElem?_eq_getElem (by omega)]
    exact congrArg some hb
  have hge := Lib.indexByte_ge (s.extract k s.size).data.toList (10 : Int).toNat.toUInt8
  have hne : (s.extract k s.size).data.toList ≠ [] := fun e => by rw [e] at hlen; simp at hlen; omega
  have hlt2 := indexByte_lt _ (10 : Int).toNat.toUInt8 hne
  rw [hlen] at hlt2
  generalize hx : Lib.indexByte (s.extract k s.size).data.toList (10 : Int).toNat.toUInt8 = x at *
  rcases Int.lt_or_le x 0 with hn | hn
  · exact .inl (by omega)
  · refine .inr ⟨x.toNat, by omega, ?_, by omega⟩
    rcases Int.lt_or_le 0 x with hp | hp
    · omega
    · exfalso
      obtain rfl : x = 0 := by omega
      revert hx h2
      cases (s.extract k s.size).data.toList with
      | nil => intro h2; simp at h2
      | cons b l =>
        intro h2 hx
        simp only [Lib.indexByte] at hx
        have : b = s[k]'hlt := by simpa using h2
        split at hx
        · rename_i he
          have he : b = (10 : Int).toNat.toUInt8 := by simpa using he
          rw [← this, he] at h
          revert h
          decide
        · have := Lib.indexByte_ge l (10 : Int).toNat.toUInt8
          split at hx
          · cases hx
          · rename_i hh
            have : Lib.indexByte l (10 : Int).toNat.toUInt8 ≠ -1 := by simpa using hh
            omega
theorem ownsRow_on {B : Nat} {t : TypeId} {m : Nat} {v : Value} {n : Nat} {xs : List Value} {w w' : World} (h : w.ownsRow B t m v n xs) (hb : Below w.heap.size w w') : w'.ownsRow B t m v n xs := by
  refine h.kept (grown_of_below hb) ?_
  cases h : v.ownBlock
  · exact .inl rfl
  · exact .inr (by simp)
set_option maxRecDepth 100000 in
set_option maxHeartbeats 4000000 in
theorem tokens42 (s : ByteArray) (w : World) (hs : s.size ≤ 1048576) : Calls Tryz.prog 42 #[.string s, .slice none 0 0] w (ToksR s w) := by
  have hfit := fit54 w
  go_enter Tryz.func42, Tryz.ntmps42
  go_wp2_with fail
  go_step3
  go_wp2_with fail
  refine hfit.mono ?_
  rintro e w2 ⟨rfl, hw⟩
  subst w2
  by_cases hbig : 524288 < s.size
  · go_wp2_with fail
    rw [Exit.noGoto_ret]
    go_ret3
    exact ⟨⟨_, _, _, rfl, (fun h => by cases h), fun _ _ => by omega⟩, Below.refl _ _⟩
  go_wp2_with fail
  go_step3
  go_wp2_with fail
  go_loopw [7, 8] (fun x y wr => ∃ (k n : Nat) (xs : List Value), y = .int .i64 k ∧ k ≤ s.size ∧ n ≤ k ∧ wr.ownsRow w.heap.size 73 3 x n xs ∧ Fine s k n xs ∧ Below w.heap.size w wr) (fun _ y _ => s.size - (intOf y).toNat)
  case atStart => exact ⟨0, 0, [], rfl, by omega, by omega, World.ownsRow_nil _ _ _ _, Fine.start s, Below.refl _ _⟩
  case round =>
    obtain ⟨k, n, xs, rfl, hk, hnk, hown, hF, hb⟩ := hrel
    have hO := hid hown
    have hF' := hid hF
    have hB := hid hb
    clear hown hF hb
    by_cases hlt : k < s.size
    rotate_left
    · obtain rfl : k = s.size := by omega
      go_wp2_with fail
      rw [Exit.noGoto_ret]
      go_ret3
      exact ⟨⟨_, _, _, rfl, fun _ => ⟨n, xs, hO.out, hF'.out⟩, fun h => absurd rfl h⟩, hB.out⟩
    by_cases hblank : (s[k]'hlt).toNat = 9 ∨ (s[k]'hlt).toNat = 13 ∨ (s[k]'hlt).toNat = 32
    · have hF2 := hid (hF'.out.on hlt (k + 1) (fun h0 e => by subst e; omega))
      rcases hblank with h | h | h
      all_goals
        have hbv : ((s[k]'hlt).toNat : Int) = _ := congrArg (Nat.cast (R := Int)) h
        go_wp2_with fail
        all_goals first
          | (go_roundw
             case rel => exact ⟨k + 1, n, xs, by go_num, by omega, by omega, hO.out, hF2.out, hB.out⟩
             case measure => simp [intOf]; omega)
          | (exfalso; simp_all; done)
    have hnb : (s[k]'hlt).toNat ≠ 9 ∧ (s[k]'hlt).toNat ≠ 13 ∧ (s[k]'hlt).toNat ≠ 32 := by omega
    have hq1 : (((s[k]'hlt).toNat : Int) == 9) = false := by simp; omega
    have hq2 : (((s[k]'hlt).toNat : Int) == 13) = false := by simp; omega
    have hq3 : (((s[k]'hlt).toNat : Int) == 32) = false := by simp; omega
    by_cases h35 : (s[k]'hlt).toNat = 35
    · have hq4 : (((s[k]'hlt).toNat : Int) == 35) = true := by simp [h35]
      have c55 := index55 (s.extract k s.size) 10 wr
      rcases idx_pos s k hlt h35 with hx | ⟨j, hx, hj1, hj2⟩
      · rw [hx] at c55
        go_wp2_with (go_at_call 55; refine c55.mono ?_; rintro e w' ⟨rfl, hw⟩; subst w')
        rw [Exit.noGoto_ret]
        go_ret3
        refine ⟨⟨_, _, _, rfl, (fun _ => ⟨n, xs, hO.out, hF'.out.on hlt _ (fun h0 e => by subst e; omega)⟩), fun h => absurd rfl h⟩, hB.out⟩
      · rw [hx] at c55
        go_wp2_with (go_at_call 55; refine c55.mono ?_; rintro e w' ⟨rfl, hw⟩; subst w')
        go_roundw
        case rel => exact ⟨k + j, n, xs, by go_num, by omega, by omega, hO.out, hF'.out.on hlt _ (fun h0 e => by subst e; omega), hB.out⟩
        case measure => simp [intOf]; omega
    have hq4 : (((s[k]'hlt).toNat : Int) == 35) = false := by simp; omega
    have c56 := token56 s k wr hs hlt
    go_wp2_with fail
    refine c56.mono ?_
    rintro e w2 ⟨⟨kd, en, er, rfl, ht⟩, hb2⟩
    have hO2 := hid (ownsRow_on hO.out hb2)
    have hB2 := hid (hB.out.trans (hb2.mono hB.out.size))
    have ht' := hid ht
    clear hb2 ht
    by_cases her : er = 0
    rotate_left
    · have hq5 : (er != 0) = true := by simpa using her
      go_wp2_with fail
      rw [Exit.noGoto_ret]
      go_ret3
      refine ⟨⟨_, _, _, rfl, (fun h => absurd h her), fun _ hq => ?_⟩, hB2.out⟩
      exfalso
      rcases hF'.out.t hq with ⟨rfl, _⟩ | ⟨h1, _⟩
      · simp only [oneWord, Bool.and_eq_true] at hq
        exact her (ht'.out.2.1 hq.1.2).2.1
      · omega
    subst her
    obtain ⟨m, hm, h1, h2⟩ := ht'.out.1 rfl
    subst hm
    have hF2 := hid (hF'.out.add hlt ht'.out h1 h2)
    have hsz2 : w.heap.size ≤ w2.heap.size := hB2.out.size
    go_wp2_with (at_builtin; refine wpList_append_str rfl _ _ 68 rfl w.heap.size 73 73 (.agg #[.int .u8 0, .int .i64 0, .string ⟨#[]⟩]) 3 32 1 Tryz.underlying68 (by kernel_rfl) rfl (by decide) _ n _ [_, _, _] (0, 0) hO2.out rfl (by simp [Value.oneCell']) (by unfold maxLen; omega) (by omega) hsz2 rfl rfl ?_; intro v' w3 hA; have hOw := hid hA.own; have hGr := hid hA.grown; clear hA)
    go_roundw
    case rel => exact ⟨m, n + 1, _, rfl, h2, by omega, hOw.out, hF2.out, hB2.out.grown hGr.out hsz2 (fun k hk => (hO2.out.lt k hk).1)⟩
    case measure => simp [intOf]; omega

end Go.Proofs.YtecpkadjnecbiaaGreatDoor
