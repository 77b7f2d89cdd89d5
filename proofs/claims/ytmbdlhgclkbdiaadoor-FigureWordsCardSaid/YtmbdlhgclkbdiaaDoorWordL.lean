/- FigureWords: what is written of a word is read as it: in plain Lean. -/
import Derived.Test.YtmbdlhgclkbdiaaDoorWord
import Derived.Test.YtmbdlhgclkbdiaaDoorFigE
namespace Go.Proofs.YtmbdlhgclkbdiaaDoor
set_option linter.unusedVariables false
set_option linter.unusedSimpArgs false

def vl (base : Int) (l : List UInt8) (n : Int) : Int := l.foldl (fun a b => a * base + dg (b.toNat : Int) base) n
theorem vl_cons (base : Int) (b : UInt8) (l : List UInt8) (n : Int) : vl base (b :: l) n = vl base l (n * base + dg (b.toNat : Int) base) := rfl
theorem vl_append (base : Int) (l r : List UInt8) (n : Int) : vl base (l ++ r) n = vl base r (vl base l n) := by unfold vl; rw [List.foldl_append]
theorem vl_ge (base : Int) (hb : 1 ≤ base) : ∀ (l : List UInt8) (n : Int), 0 ≤ n → n ≤ vl base l n
  | [], n, _ => Int.le_refl _
  | b :: l, n, h => by
    have hd := dg_bd (b.toNat : Int) base (by omega)
    have h1 : n * 1 ≤ n * base := Int.mul_le_mul_of_nonneg_left hb h
    have := vl_ge base hb l (n * base + dg (b.toNat : Int) base) (by omega)
    rw [vl_cons]
    omega
theorem scan_list (base lim : Int) (hb : 1 ≤ base) (l : List UInt8) : ∀ (r : List UInt8) (k : Nat) (n : Int), l.drop k = r → (∀ b ∈ r, dg (b.toNat : Int) base ≠ base) → vl base r n ≤ lim → 0 ≤ n →
    scanA base lim ⟨⟨l⟩⟩ k n = (vl base r n, 0, 0)
  | [], k, n, h, _, _, _ => by
    have e : (⟨⟨l⟩⟩ : ByteArray).size = l.length := rfl
    have h1 := List.drop_eq_nil_iff.1 h
    rw [scan_end _ _ _ _ _ (by omega)]
    rfl
  | b :: r, k, n, h, hv, hl, h0 => by
    have hk : k < l.length := by
      rcases Nat.lt_or_ge k l.length with h' | h'
      · exact h'
      · rw [List.drop_eq_nil_of_le h'] at h; cases h
    have e := List.drop_eq_getElem_cons hk
    rw [h] at e
    simp only [List.cons.injEq] at e
    have hby : byt ⟨⟨l⟩⟩ k = (b.toNat : Int) := by
      rw [byt_mk, List.getElem?_eq_getElem hk, e.1]
      rfl
    have hd := dg_bd (b.toNat : Int) base (by omega)
    have h2 : 0 ≤ n * base := Int.mul_nonneg h0 (by omega)
    rw [vl_cons] at hl
    have hge := vl_ge base hb r (n * base + dg (b.toNat : Int) base) (by omega)
    rw [scan_step _ _ _ _ _ hk, hby, if_neg (hv b (List.mem_cons_self ..)), if_neg (by omega), scan_list base lim hb l r (k + 1) _ e.2.symm (fun x hx => hv x (List.mem_cons_of_mem _ hx)) hl (by omega), vl_cons]

theorem dg10 (c : Int) (h : 48 ≤ c ∧ c ≤ 57) : dg c 10 = c - 48 := by
  unfold dg hx
  rw [if_pos h, if_neg (by omega)]
def Dig (l : List UInt8) : Prop := ∀ b ∈ l, 48 ≤ (b.toNat : Int) ∧ (b.toNat : Int) ≤ 57
theorem Dig.append {l r : List UInt8} (h : Dig l) (k : Dig r) : Dig (l ++ r) := fun b hb => (List.mem_append.1 hb).elim (h b) (k b)
theorem ofNat48 (i : Nat) (h : i < 10) : ((UInt8.ofNat (48 + i)).toNat : Int) = 48 + i := by
  rw [UInt8.toNat_ofNat']
  omega
theorem dig_dec (u : Nat) : Dig (Lib.decDigits u) ∧ ∀ n : Int, vl 10 (Lib.decDigits u) 0 = u := by
  induction u using Nat.strongRecOn with
  | _ u ih =>
    by_cases h : u < 10
    · rw [Lib.decDigits, dif_pos h]
      have h8 := ofNat48 u h
      refine ⟨fun b hb => ?_, fun n => ?_⟩
      · rw [List.mem_singleton] at hb
        subst hb
        omega
      · rw [vl_cons, h8, dg10 _ (by omega)]
        show (0 : Int) * 10 + (48 + u - 48) = u
        omega
    · rw [Lib.decDigits, dif_neg h]
      obtain ⟨i1, i2⟩ := ih (u / 10) (by omega)
      have h8 := ofNat48 (u % 10) (by omega)
      refine ⟨i1.append fun b hb => ?_, fun n => ?_⟩
      · rw [List.mem_singleton] at hb
        subst hb
        omega
      · rw [vl_append, i2 n, vl_cons, h8, dg10 _ (by omega)]
        show (((u / 10 : Nat) : Int) * 10 + (48 + ((u % 10 : Nat) : Int) - 48)) = u
        omega
theorem vl_zeros : ∀ k, vl 10 (List.replicate k 48) 0 = 0
  | 0 => rfl
  | k + 1 => by rw [List.replicate_succ, vl_cons]; exact vl_zeros k
theorem dig_zeros (k : Nat) : Dig (List.replicate k 48) := fun b hb => by
  rw [(List.mem_replicate.1 hb).2]
  decide
theorem rep48u : ∀ c, Lib.repeatL [48] c = List.replicate c 48
  | 0 => rfl
  | c + 1 => by rw [Lib.repeatL, rep48u c, List.replicate_succ]; rfl
theorem dec_ne (u : Nat) : Lib.decDigits u ≠ [] := by
  intro h
  have := Lib.decDigits_length u
  rw [h] at this
  have := Lib.nDigits_pos u
  simp at *
  omega

theorem word_dec (l : List UInt8) (hd : Dig l) (hne : l ≠ []) (hl : l.length ≤ 64) (hv : vl 10 l 0 ≤ 4294967295) : wordV ⟨⟨l⟩⟩ = (vl 10 l 0, 0, 0) := by
  have hs : (⟨⟨l⟩⟩ : ByteArray).size = l.length := rfl
  have hb0 : byt ⟨⟨l⟩⟩ 0 ≠ 45 := by
    rw [byt_mk]
    cases h : l[0]? with
    | none => simp
    | some b =>
      have := hd b (List.mem_of_getElem? h)
      simp only [Option.map_some, Option.getD_some]
      omega
  have hb1 : byt ⟨⟨l⟩⟩ 1 ≤ 57 := by
    rw [byt_mk]
    cases h : l[1]? with
    | none => simp
    | some b =>
      have := hd b (List.mem_of_getElem? h)
      simp only [Option.map_some, Option.getD_some]
      omega
  have hM : ¬ isM ⟨⟨l⟩⟩ := fun h => hb0 h.1
  have hX : ¬ isX ⟨⟨l⟩⟩ := fun h => by have := h.1.2; omega
  have hB : ¬ isB ⟨⟨l⟩⟩ := fun h => by have := h.1.2; omega
  have hz : (0 : Nat) ≠ (⟨⟨l⟩⟩ : ByteArray).size := by
    rw [hs]
    intro h
    exact hne (List.length_eq_zero_iff.1 h.symm)
  unfold wordV
  rw [if_neg (by rw [hs]; omega), if_neg hM, if_neg hX, if_neg hB]
  unfold digs
  rw [if_neg hz, scan_list 10 4294967295 (by decide) l l 0 0 rfl (fun b hb => by rw [dg10 _ (hd b hb)]; have := hd b hb; omega) hv (by decide)]
  rw [fin_ok]
  rfl
theorem word_neg (l : List UInt8) (hd : Dig l) (hne : l ≠ []) (hl : l.length ≤ 63) (hv : vl 10 l 0 ≤ 2147483648) : wordV ⟨⟨45 :: l⟩⟩ = ((4294967296 - vl 10 l 0) % 4294967296, 0, 0) := by
  have hs : (⟨⟨45 :: l⟩⟩ : ByteArray).size = l.length + 1 := rfl
  have hM : isM ⟨⟨45 :: l⟩⟩ := ⟨by rw [byt_mk]; rfl, by rw [hs]; omega⟩
  have hz : (1 : Nat) ≠ (⟨⟨45 :: l⟩⟩ : ByteArray).size := by
    rw [hs]
    intro h
    exact hne (List.length_eq_zero_iff.1 (by omega))
  unfold wordV
  rw [if_neg (by rw [hs]; omega), if_pos hM]
  unfold digs
  rw [if_neg hz, scan_list 10 2147483648 (by decide) (45 :: l) l 1 0 rfl (fun b hb => by rw [dg10 _ (hd b hb)]; have := hd b hb; omega) hv (by decide)]
  rw [fin_ok]
  rfl

/-! ### sixteen -/
theorem hd8 : ∀ d : Fin 16, dg ((UInt8.ofNat ((hd d.1 : Nat) : Int).toNat).toNat : Int) 16 = d.1 := by decide
theorem vl_hex : ∀ (k u : Nat) (n : Int), vl 16 ((hexFix k u).map (fun z => UInt8.ofNat z.toNat)) 0 = ((u % 16 ^ k : Nat) : Int)
  | 0, u, n => by rw [Nat.pow_zero, Nat.mod_one]; rfl
  | k + 1, u, n => by
    rw [hexFix, List.map_append, vl_append, vl_hex k (u / 16) n]
    show (((u / 16) % 16 ^ k : Nat) : Int) * 16 + dg ((UInt8.ofNat ((hd (u % 16) : Nat) : Int).toNat).toNat : Int) 16 = _
    rw [hd8 ⟨u % 16, Nat.mod_lt _ (by decide)⟩, Nat.pow_succ, Nat.mul_comm (16 ^ k) 16, Nat.mod_mul]
    show (((u / 16) % 16 ^ k : Nat) : Int) * 16 + ((u % 16 : Nat) : Int) = _
    generalize (u / 16) % 16 ^ k = m
    generalize u % 16 = d
    omega
theorem hex_val : ∀ (k u : Nat), ∀ b ∈ (hexFix k u).map (fun z => UInt8.ofNat z.toNat), dg (b.toNat : Int) 16 ≠ 16
  | 0, u, b, h => by simp [hexFix] at h
  | k + 1, u, b, h => by
    rw [hexFix, List.map_append, List.mem_append] at h
    rcases h with h | h
    · exact hex_val k (u / 16) b h
    · simp only [List.map_cons, List.map_nil, List.mem_singleton] at h
      rw [h, hd8 ⟨u % 16, Nat.mod_lt _ (by decide)⟩]
      have := Nat.mod_lt u (show 0 < 16 by decide)
      show ((u % 16 : Nat) : Int) ≠ 16
      omega
theorem word_hex (x : Nat) (hx : x < 4294967296) : wordV (hexT x) = ((x : Int), 0, 0) := by
  have e : hexT x = ⟨⟨48 :: 120 :: (hexFix 8 x).map (fun z => UInt8.ofNat z.toNat)⟩⟩ := rfl
  have hv := vl_hex 8 x 0
  have hd := hex_val 8 x
  have hln : ((hexFix 8 x).map (fun z => UInt8.ofNat z.toNat)).length = 8 := by rw [List.length_map, hexFix_len]
  rw [Nat.mod_eq_of_lt (by omega)] at hv
  rw [e]
  clear e
  generalize (hexFix 8 x).map (fun z => UInt8.ofNat z.toNat) = l at *
  have hs : (⟨⟨48 :: 120 :: l⟩⟩ : ByteArray).size = l.length + 2 := rfl
  have hM : ¬ isM ⟨⟨48 :: 120 :: l⟩⟩ := fun h => by have := h.1; rw [byt_mk] at this; exact absurd this (show ¬ ((48 : Int) = 45) by decide)
  have hX : isX ⟨⟨48 :: 120 :: l⟩⟩ := ⟨⟨by rw [byt_mk]; rfl, by rw [byt_mk]; rfl⟩, by rw [hs]; omega⟩
  unfold wordV
  rw [if_neg (by rw [hs]; omega), if_neg hM, if_pos hX]
  unfold digs
  rw [if_neg (by rw [hs]; omega), scan_list 16 4294967295 (by decide) (48 :: 120 :: l) l 2 0 rfl hd (by omega) (by decide), hv]
  rw [fin_ok]
  rfl

/-! ### ten, with noughts ahead -/
theorem word_pos (x c : Nat) (hx : x < 4294967296) (hc : c < 40) : wordV ⟨⟨List.replicate c 48 ++ Lib.decDigits x⟩⟩ = ((x : Int), 0, 0) := by
  have h1 : vl 10 (List.replicate c 48 ++ Lib.decDigits x) 0 = x := by rw [vl_append, vl_zeros, (dig_dec x).2 0]
  have hn := Lib.nDigits_le20 x (by omega)
  have hl := Lib.decDigits_length x
  rw [word_dec _ ((dig_zeros c).append (dig_dec x).1) (fun h => dec_ne x (List.append_eq_nil_iff.1 h).2) (by rw [List.length_append, List.length_replicate]; omega) (by omega), h1]
theorem word_min (y c : Nat) (hy : y ≤ 2147483648) (hc : c < 40) : wordV ⟨⟨45 :: (List.replicate c 48 ++ Lib.decDigits y)⟩⟩ = ((4294967296 - (y : Int)) % 4294967296, 0, 0) := by
  have h1 : vl 10 (List.replicate c 48 ++ Lib.decDigits y) 0 = y := by rw [vl_append, vl_zeros, (dig_dec y).2 0]
  have hn := Lib.nDigits_le20 y (by omega)
  have hl := Lib.decDigits_length y
  rw [word_neg _ ((dig_zeros c).append (dig_dec y).1) (fun h => dec_ne y (List.append_eq_nil_iff.1 h).2) (by rw [List.length_append, List.length_replicate]; omega) (by omega), h1]
end Go.Proofs.YtmbdlhgclkbdiaaDoor
