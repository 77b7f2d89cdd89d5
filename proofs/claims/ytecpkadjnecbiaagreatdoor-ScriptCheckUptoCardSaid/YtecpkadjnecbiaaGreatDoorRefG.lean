/- Walks: the reference's figures, literals' ends, hexadecimal digits, codes: they answer, and where. No condition. -/
import Derived.Test.YtecpkadjnecbiaaGreatDoorProg
import Derived.Test.YtecpkadjnecbiaaGreatDoorRefD
import Derived.Laws.BytesArg
namespace Go.Proofs.YtecpkadjnecbiaaGreatDoor
open Go.RowKit
set_option linter.unusedVariables false
set_option linter.unusedSimpArgs false

open Go.Shelf
attribute [local go_sem] Oper.semAt_some

set_option maxRecDepth 100000 in
set_option maxHeartbeats 8000000 in
theorem figureEnd65 (s : ByteArray) (p : Nat) (w : World) (hs : s.size ≤ 1048576) (hp : p < s.size) : Calls Tryz.prog 65 #[.string s, .int .i64 p] w
    fun e w' => (∃ k : Nat, e = .returned (.int .i64 k) ∧ p < k ∧ k ≤ s.size) ∧ w' = w := by
  have hdig := fun r => digit64 r w
  have hlet := fun r => plainLetter84 r w
  go_enter Tryz.func65, Tryz.ntmps65
  refine wp_seq_k fun K1 h1 => ?_
  have h1' := hid h1
  clear h1
  go_wp2_with fail
  refine h1'.out _ _ ?_
  clear h1' K1
  apply mergeR (fun a' w' => w' = w ∧ ∃ (b5 : Bool) (x10 x11 x12 x13 x14 x15 x16 x17 x18 x19 x20 x21 x22 x23 x24 x25 x26 x27 x28 x29 x30 x31 x32 x33 x34 : Value), a' = ⟨#[_, _, _, _, _, .bool b5, _, _, _, _, x10, x11, x12, x13, x14, x15, x16, x17, x18, x19, x20, x21, x22, x23, x24, x25, x26, x27, x28, x29, x30, x31, x32, x33, x34, _, _, _, _, _, _, _, _, _, _, _, _, _, _, _, _, _, _, _, _, _, _, _, _, _, _, _, _, _, _, _, _, _, _, _, _, _, _, _, _, _, _, _, _, _, _, _, _, _, _, _, _, _, _, _, _, _, _, _, _, _, _, _, _, _, _], []⟩)
  case h1 =>
    intro K hK
    have hK' := hid hK
    clear hK
    go_wp2_with fail
    all_goals exact hK'.out _ _ ⟨rfl, _, _, _, _, _, _, _, _, _, _, _, _, _, _, _, _, _, _, _, _, _, _, _, _, _, _, rfl⟩
  case h2 =>
    intro a1 w1 hR
    dsimp only at hR
    obtain ⟨hw1, b5, x10, x11, x12, x13, x14, x15, x16, x17, x18, x19, x20, x21, x22, x23, x24, x25, x26, x27, x28, x29, x30, x31, x32, x33, x34, rfl⟩ := hR
    subst w1
    cases b5
    all_goals
      go_wp2_with fail
      go_loopw [6] (fun x wr => ∃ k : Nat, x = .int .i64 k ∧ p < k ∧ k ≤ s.size ∧ wr = w) (fun x _ => s.size - (intOf x).toNat)
      case atStart => exact ⟨p + 1, by go_num, by omega, by omega, rfl⟩
      case round =>
        obtain ⟨k, rfl, hk, hk2, hw⟩ := hrel
        subst wr
        by_cases hlt : k < s.size
        rotate_left
        · go_wp2_with fail
          go_ret
          exact ⟨⟨k, rfl, by omega, hk2⟩, rfl⟩
        refine wp_seq_k fun K1 h1 => ?_
        have h1' := hid h1
        clear h1
        go_wp2_with fail
        refine h1'.out _ _ (wp_block ?_)
        clear h1' K1
        refine wp_seq_k fun K1 h1 => ?_
        have h1' := hid h1
        clear h1
        go_wp2_with fail
        refine h1'.out _ _ ?_
        clear h1' K1
        refine wp_seq_k fun K1 h1 => ?_
        have h1' := hid h1
        clear h1
        go_wp2_with fail
        refine h1'.out _ _ ?_
        clear h1' K1
        apply mergeR (fun a' w' => w' = w ∧ ∃ (b9 : Bool) (x8 x47 x48 x49 x50 x51 x52 x53 x54 x55 x56 x57 x58 x59 x60 x61 x62 x63 x64 x65 x66 x67 x68 : Value), a' = ⟨#[_, _, _, _, _, _, _, _, x8, .bool b9, _, _, _, _, _, _, _, _, _, _, _, _, _, _, _, _, _, _, _, _, _, _, _, _, _, _, _, _, _, _, _, _, _, _, _, _, _, x47, x48, x49, x50, x51, x52, x53, x54, x55, x56, x57, x58, x59, x60, x61, x62, x63, x64, x65, x66, x67, x68, _, _, _, _, _, _, _, _, _, _, _, _, _, _, _, _, _, _, _, _, _, _, _, _, _, _, _, _, _, _, _, _], []⟩)
        case h1 =>
          intro K hK
          have hK' := hid hK
          clear hK
          go_wp2_with fail
          all_goals exact hK'.out _ _ ⟨rfl, _, _, _, _, _, _, _, _, _, _, _, _, _, _, _, _, _, _, _, _, _, _, _, _, rfl⟩
        case h2 =>
          intro a1 w1 hR
          dsimp only at hR
          obtain ⟨hw1, b9, x8, x47, x48, x49, x50, x51, x52, x53, x54, x55, x56, x57, x58, x59, x60, x61, x62, x63, x64, x65, x66, x67, x68, rfl⟩ := hR
          subst w1
          refine wp_seq_k fun K2 hK2 => ?_
          apply mergeR (fun a' w' => w' = w ∧ ∃ (b96 : Bool) (x7 x9 x43 x69 x70 x71 x72 x73 x74 x75 x76 x77 x78 x79 x80 x81 x82 x83 x84 x85 x86 x87 x88 x89 x90 x91 x92 x93 x94 x95 : Value), a' = ⟨#[_, _, _, _, _, _, _, x7, _, x9, _, _, _, _, _, _, _, _, _, _, _, _, _, _, _, _, _, _, _, _, _, _, _, _, _, _, _, _, _, _, _, _, _, x43, _, _, _, _, _, _, _, _, _, _, _, _, _, _, _, _, _, _, _, _, _, _, _, _, _, x69, x70, x71, x72, x73, x74, x75, x76, x77, x78, x79, x80, x81, x82, x83, x84, x85, x86, x87, x88, x89, x90, x91, x92, x93, x94, x95, .bool b96, _, _, _, _], []⟩)
          case h1 =>
            intro K hK
            have hK' := hid hK
            clear hK
            go_wp2_with (first | (go_at_call 64; refine (hdig _).mono ?_; rintro e w' ⟨rfl, hw⟩; subst w') | (go_at_call 84; refine (hlet _).mono ?_; rintro e w' ⟨rfl, hw⟩; subst w'))
            all_goals exact hK'.out _ _ ⟨rfl, _, _, _, _, _, _, _, _, _, _, _, _, _, _, _, _, _, _, _, _, _, _, _, _, _, _, _, _, _, _, _, rfl⟩
          case h2 =>
            intro a1 w1 hR
            dsimp only at hR
            obtain ⟨hw1, b96, x7, x9, x43, x69, x70, x71, x72, x73, x74, x75, x76, x77, x78, x79, x80, x81, x82, x83, x84, x85, x86, x87, x88, x89, x90, x91, x92, x93, x94, x95, rfl⟩ := hR
            subst w1
            cases b96
            · go_wp2_with fail
              go_roundw
              case rel => exact ⟨k + 1, by go_num, by omega, by omega, trivial⟩
              case measure => simp [intOf]; omega
            · go_wp2_with fail
              go_ret
              exact ⟨⟨k, rfl, by omega, hk2⟩, rfl⟩
set_option maxRecDepth 100000 in
set_option maxHeartbeats 2000000 in
theorem litEnd85 (s : ByteArray) (p : Nat) (q : Int) (w : World) (hs : s.size ≤ 1048576) (hp : p < s.size) : Calls Tryz.prog 85 #[.string s, .int .i64 p, .int .u8 q] w
    fun e w' => (∃ x : Int, e = .returned (.int .i64 x) ∧ (0 ≤ x → ∃ k : Nat, x = k ∧ p < k ∧ k ≤ s.size)) ∧ w' = w := by
  go_enter Tryz.func85, Tryz.ntmps85
  go_wp2_with fail
  go_loopw [7] (fun x wr => ∃ k : Nat, x = .int .i64 k ∧ p < k ∧ k ≤ s.size + 1 ∧ wr = w) (fun x _ => s.size + 2 - (intOf x).toNat)
  case atStart => exact ⟨p + 1, by go_num, by omega, by omega, rfl⟩
  case round =>
    obtain ⟨k, rfl, hk, hk2, hw⟩ := hrel
    subst wr
    by_cases hlt : k < s.size
    rotate_left
    · go_wp2_with fail
      go_ret
      exact ⟨⟨-1, rfl, fun h => by omega⟩, rfl⟩
    by_cases h92 : (s[k]'hlt).toNat = 92
    · have hq : (((s[k]'hlt).toNat : Int) == 92) = true := by simp; omega
      go_wp2_with fail
      go_roundw
      case rel => exact ⟨k + 2, by go_num, by omega, by omega, trivial⟩
      case measure => simp [intOf]; omega
    have hq : (((s[k]'hlt).toNat : Int) == 92) = false := by simp; omega
    by_cases h10 : (s[k]'hlt).toNat = 10
    · have hq2 : (((s[k]'hlt).toNat : Int) == 10) = true := by simp; omega
      go_wp2_with fail
      go_ret
      exact ⟨⟨-1, rfl, fun h => by omega⟩, rfl⟩
    have hq2 : (((s[k]'hlt).toNat : Int) == 10) = false := by simp; omega
    cases hq3 : ((s[k]'hlt).toNat : Int) == q
    · go_wp2_with fail
      go_roundw
      case rel => exact ⟨k + 1, by go_num, by omega, by omega, trivial⟩
      case measure => simp [intOf]; omega
    · go_wp2_with fail
      go_ret
      exact ⟨⟨k + 1, by go_num, fun _ => ⟨k + 1, by omega, by omega, by omega⟩⟩, rfl⟩
set_option maxRecDepth 100000 in
theorem hexDigit123 (c : Int) (hc : 0 ≤ c ∧ c < 256) (w : World) : Calls Tryz.prog 123 #[.int .u8 c] w fun e w' => (∃ d : Int, e = .returned (.int .i32 d) ∧ -1 ≤ d ∧ d ≤ 15) ∧ w' = w := by
  have h := digit64 c w
  go_enter Tryz.func123, Tryz.ntmps123
  go_wp2_with fail
  refine h.mono ?_
  rintro e w2 ⟨rfl, hw⟩
  subst w2
  cases hd : digitB c
  · go_wp2_with fail
    all_goals
      go_ret
      exact ⟨⟨_, rfl, by omega, by omega⟩, rfl⟩
  · have : 48 ≤ c ∧ c ≤ 57 := by unfold digitB at hd; simpa using hd
    go_wp2_with fail
    go_ret
    exact ⟨⟨_, rfl, by omega, by omega⟩, rfl⟩

end Go.Proofs.YtecpkadjnecbiaaGreatDoor

namespace Go.Proofs.YtecpkadjnecbiaaGreatDoor
open Go.RowKit
set_option linter.unusedVariables false
set_option linter.unusedSimpArgs false

open Go.Shelf
attribute [local go_sem] Oper.semAt_some

theorem conv_bytes (l : List Int) (w : World) (n : Nat) (hn : n = l.length) : (convert 112 9 (.slice (some ⟨w.heap.size, 0, none⟩) n n)).run Tryz.prog (w.alloc (.cells (l.map (Value.int .u8)).toArray 5 (0, 0))) = .ok (.string (strOfNums l)) (w.alloc (.cells (l.map (Value.int .u8)).toArray 5 (0, 0))) :=
  run_convert_bytes_arg _ 112 5 Tryz.underlying112 Tryz.underlying5 w.heap.size 0 n n l hn.symm (fun i hi => by
    have hp : (⟨w.heap.size, 0 + i, none⟩ : Addr) = ⟨w.heap.size, i, none⟩ := by rw [Nat.zero_add]
    rw [hp, World.cell?_alloc_mark]
    simp [List.getD, List.getElem?_eq_getElem (show i < l.length by omega)]) 9 Tryz.underlying9
theorem conv1 (w : World) (a : Int) : (convert 112 9 (.slice (some ⟨w.heap.size, 0, none⟩) 1 1)).run Tryz.prog (w.alloc (.cells #[.int .u8 a] 5 (0, 0))) = .ok (.string (strOfNums [a])) (w.alloc (.cells #[.int .u8 a] 5 (0, 0))) := conv_bytes [a] w 1 rfl
theorem conv2 (w : World) (a b : Int) : (convert 112 9 (.slice (some ⟨w.heap.size, 0, none⟩) 2 2)).run Tryz.prog (w.alloc (.cells #[.int .u8 a, .int .u8 b] 5 (0, 0))) = .ok (.string (strOfNums [a, b])) (w.alloc (.cells #[.int .u8 a, .int .u8 b] 5 (0, 0))) := conv_bytes [a, b] w 2 rfl
theorem conv3 (w : World) (a b c : Int) : (convert 112 9 (.slice (some ⟨w.heap.size, 0, none⟩) 3 3)).run Tryz.prog (w.alloc (.cells #[.int .u8 a, .int .u8 b, .int .u8 c] 5 (0, 0))) = .ok (.string (strOfNums [a, b, c])) (w.alloc (.cells #[.int .u8 a, .int .u8 b, .int .u8 c] 5 (0, 0))) := conv_bytes [a, b, c] w 3 rfl
theorem conv4 (w : World) (a b c d : Int) : (convert 112 9 (.slice (some ⟨w.heap.size, 0, none⟩) 4 4)).run Tryz.prog (w.alloc (.cells #[.int .u8 a, .int .u8 b, .int .u8 c, .int .u8 d] 5 (0, 0))) = .ok (.string (strOfNums [a, b, c, d])) (w.alloc (.cells #[.int .u8 a, .int .u8 b, .int .u8 c, .int .u8 d] 5 (0, 0))) := conv_bytes [a, b, c, d] w 4 rfl

set_option maxRecDepth 100000 in
set_option maxHeartbeats 2000000 in
theorem hexes117 (s : ByteArray) (p n : Nat) (w : World) (hs : s.size ≤ 1048576) (hp : p ≤ 1048580) (hn : n ≤ 4) : Calls Tryz.prog 117 #[.string s, .int .i64 p, .int .i64 n] w
    fun e w' => (∃ x : Int, e = .returned (.int .i32 x) ∧ (0 ≤ x → p + n ≤ s.size)) ∧ w' = w := by
  have hhex := fun c (hc : 0 ≤ c ∧ c < 256) => hexDigit123 c hc w
  go_enter Tryz.func117, Tryz.ntmps117
  by_cases hbig : s.size < p + n
  · go_wp2_with fail
    go_ret
    exact ⟨⟨-1, rfl, fun h => by omega⟩, rfl⟩
  go_wp2_with fail
  go_loopw [7, 8] (fun x y wr => ∃ (j : Nat) (v : Int), x = .int .i32 v ∧ y = .int .i64 j ∧ j ≤ n ∧ wr = w) (fun _ y _ => n - (intOf y).toNat)
  case atStart => exact ⟨0, 0, rfl, rfl, Nat.zero_le _, rfl⟩
  case round =>
    obtain ⟨j, v, rfl, rfl, hj, hw⟩ := hrel
    subst wr
    by_cases hlt : j < n
    rotate_left
    · go_wp2_with fail
      go_ret
      exact ⟨⟨v, rfl, fun h => by omega⟩, rfl⟩
    have hpj : p + j < s.size := by omega
    have hc := hhex ((s[p + j]'hpj).toNat : Int) (by have := (s[p + j]'hpj).toNat_lt; omega)
    go_wp2_with fail
    refine hc.mono ?_
    rintro e w2 ⟨⟨d, rfl, hd1, hd2⟩, hw⟩
    subst w2
    by_cases hd0 : d < 0
    · go_wp2_with fail
      go_ret
      exact ⟨⟨-1, rfl, fun h => by omega⟩, rfl⟩
    · go_wp2_with fail
      go_roundw
      case rel => exact ⟨j + 1, _, rfl, by go_num, by omega, trivial⟩
      case measure => simp [intOf]; omega
def CodeR (r : Int) (w : World) (e : Ending) (w' : World) : Prop := (∃ (t : ByteArray) (b : Bool), e = .returned (.tuple #[.string t, .bool b]) ∧ t.size ≤ 4 ∧ (b = true → 0 ≤ r)) ∧ Below w.heap.size w w'
set_option maxRecDepth 100000 in
set_option maxHeartbeats 2000000 in
theorem code118 (r : Int) (w : World) : Calls Tryz.prog 118 #[.int .i32 r] w (CodeR r w) := by
  have k1 := conv1
  have k2 := conv2
  have k3 := conv3
  have k4 := conv4
  have e0 : (⟨#[]⟩ : ByteArray).size ≤ 4 := by decide
  go_enter Tryz.func118, Tryz.ntmps118
  by_cases h0 : r < 0
  · go_wp2_with fail
    go_ret2
    exact ⟨⟨_, _, rfl, e0, fun h => by cases h⟩, Below.refl _ _⟩
  by_cases h1 : 1114111 < r
  · go_wp2_with fail
    go_ret2
    exact ⟨⟨_, _, rfl, e0, fun h => by cases h⟩, Below.refl _ _⟩
  by_cases h2 : 55296 ≤ r ∧ r ≤ 57343
  · go_wp2_with fail
    go_ret2
    exact ⟨⟨_, _, rfl, e0, fun h => by cases h⟩, Below.refl _ _⟩
  have hB : ∀ o, Below w.heap.size w (w.alloc o) := fun o => (Below.refl _ _).alloc (Nat.le_refl _) o
  by_cases h3 : r < 128
  · go_wp2_with fail
    go_ret2
    exact ⟨⟨_, _, rfl, by rw [strOfNums_size]; simp, fun _ => by omega⟩, hB _⟩
  by_cases h4 : r < 2048
  · go_wp2_with fail
    go_ret2
    exact ⟨⟨_, _, rfl, by rw [strOfNums_size]; simp, fun _ => by omega⟩, hB _⟩
  by_cases h5 : r < 65536
  · rcases Int.lt_or_le r 55296 with h6 | h6
    · go_wp2_with fail
      go_ret2
      exact ⟨⟨_, _, rfl, by rw [strOfNums_size]; simp, fun _ => by omega⟩, hB _⟩
    · have h7 : 57343 < r := by omega
      go_wp2_with fail
      go_ret2
      exact ⟨⟨_, _, rfl, by rw [strOfNums_size]; simp, fun _ => by omega⟩, hB _⟩
  · have h7 : 57343 < r := by omega
    go_wp2_with fail
    go_ret2
    exact ⟨⟨_, _, rfl, by rw [strOfNums_size]; simp, fun _ => by omega⟩, hB _⟩

end Go.Proofs.YtecpkadjnecbiaaGreatDoor

namespace Go.Proofs.YtecpkadjnecbiaaGreatDoor
open Go.RowKit
set_option linter.unusedVariables false
set_option linter.unusedSimpArgs false

open Go.Shelf
attribute [local go_sem] Oper.semAt_some

def ThingR (s : ByteArray) (p : Nat) (w : World) (e : Ending) (w' : World) : Prop :=
  (∃ (t : ByteArray) (r en : Int) (b : Bool) (er : Int), e = .returned (.tuple #[.string t, .int .i32 r, .int .i64 en, .bool b, .int .i64 er]) ∧ t.size ≤ 4 ∧ (er = 0 → ∃ n : Nat, en = n ∧ p < n ∧ n ≤ s.size)) ∧ Below w.heap.size w w'
theorem ret5 {P : Program} {fn : Func} {a b c d x : Tmp} {fr : Act} {w : World} {Q : Ending → World → Prop} (h : fn.results = #[.tmp a, .tmp b, .tmp c, .tmp d, .tmp x]) (hd : fr.defers = [])
    (hq : Q (.returned (.tuple #[fr.tmps.getD a undef, fr.tmps.getD b undef, fr.tmps.getD c undef, fr.tmps.getD d undef, fr.tmps.getD x undef])) w) : bodyPost P fn Q .ret fr w :=
  bodyPost_ret (by simp [results, h, go_sem]) hd hq
set_option maxRecDepth 100000 in
set_option maxHeartbeats 4000000 in
theorem escape110 (s : ByteArray) (p : Nat) (w : World) (hs : s.size ≤ 1048576) (hp : p < s.size) : Calls Tryz.prog 110 #[.string s, .int .i64 p] w (ThingR s p w) := by
  have k1 := conv1
  have e0 : (⟨#[]⟩ : ByteArray).size ≤ 4 := by decide
  have hB : ∀ o, Below w.heap.size w (w.alloc o) := fun o => (Below.refl _ _).alloc (Nat.le_refl _) o
  have hc2 : Calls Tryz.prog 117 #[.string s, .int .i64 ((p : Int) + 2), .int .i64 2] w fun e w' => (∃ x : Int, e = .returned (.int .i32 x) ∧ (0 ≤ x → p + 2 + 2 ≤ s.size)) ∧ w' = w := hexes117 s (p + 2) 2 w hs (by omega) (by omega)
  have hc4 : Calls Tryz.prog 117 #[.string s, .int .i64 ((p : Int) + 2), .int .i64 4] w fun e w' => (∃ x : Int, e = .returned (.int .i32 x) ∧ (0 ≤ x → p + 2 + 4 ≤ s.size)) ∧ w' = w := hexes117 s (p + 2) 4 w hs (by omega) (by omega)
  have c118 := fun r => code118 r w
  go_enter Tryz.func110, Tryz.ntmps110
  by_cases h1 : s.size ≤ p + 1
  · go_wp2_with fail
    refine ret5 rfl rfl ?_
    exact ⟨⟨_, _, _, _, _, rfl, e0, fun h => absurd h (by decide)⟩, Below.refl _ _⟩
  have h1p : p + 1 < s.size := by omega
  have hwr : wrap32 ((s[p + 1]'h1p).toNat : Int) = ((s[p + 1]'h1p).toNat : Int) := by have := (s[p + 1]'h1p).toNat_lt; unfold wrap32; omega
  by_cases hsm : (s[p + 1]'h1p).toNat = 110 ∨ (s[p + 1]'h1p).toNat = 116 ∨ (s[p + 1]'h1p).toNat = 114 ∨ (s[p + 1]'h1p).toNat = 48 ∨ (s[p + 1]'h1p).toNat = 92 ∨ (s[p + 1]'h1p).toNat = 34 ∨ (s[p + 1]'h1p).toNat = 39
  · rcases hsm with h | h | h | h | h | h | h
    all_goals
      have hv : ((s[p + 1]'h1p).toNat : Int) = _ := congrArg (Nat.cast (R := Int)) h
      go_wp2_with fail
      refine ret5 rfl rfl ?_
      exact ⟨⟨_, _, _, _, _, rfl, by rw [strOfNums_size]; simp, fun _ => ⟨p + 2, by omega, by omega, by omega⟩⟩, hB _⟩
  have q1 : (((s[p + 1]'h1p).toNat : Int) == 110) = false := by simp; omega
  have q2 : (((s[p + 1]'h1p).toNat : Int) == 116) = false := by simp; omega
  have q3 : (((s[p + 1]'h1p).toNat : Int) == 114) = false := by simp; omega
  have q4 : (((s[p + 1]'h1p).toNat : Int) == 48) = false := by simp; omega
  have q5 : (((s[p + 1]'h1p).toNat : Int) == 92) = false := by simp; omega
  have q6 : (((s[p + 1]'h1p).toNat : Int) == 34) = false := by simp; omega
  have q7 : (((s[p + 1]'h1p).toNat : Int) == 39) = false := by simp; omega
  clear hsm
  by_cases hx : (s[p + 1]'h1p).toNat = 120
  · have q8 : (((s[p + 1]'h1p).toNat : Int) == 120) = true := by simp; omega
    have q9 : (((s[p + 1]'h1p).toNat : Int) == 117) = false := by simp; omega
    go_wp2_with fail
    refine hc2.mono ?_
    rintro e w2 ⟨⟨x, rfl, hx2⟩, hw⟩
    subst w2
    by_cases hx0 : 0 ≤ x
    · have := hx2 hx0
      go_wp2_with fail
      refine ret5 rfl rfl ?_
      exact ⟨⟨_, _, _, _, _, rfl, by rw [strOfNums_size]; simp, fun _ => ⟨p + 4, by omega, by omega, by omega⟩⟩, hB _⟩
    · go_wp2_with fail
      refine ret5 rfl rfl ?_
      exact ⟨⟨_, _, _, _, _, rfl, e0, fun h => absurd h (by decide)⟩, Below.refl _ _⟩
  have q8 : (((s[p + 1]'h1p).toNat : Int) == 120) = false := by simp; omega
  by_cases hu : (s[p + 1]'h1p).toNat = 117
  · have q9 : (((s[p + 1]'h1p).toNat : Int) == 117) = true := by simp; omega
    go_wp2_with fail
    refine hc4.mono ?_
    rintro e w2 ⟨⟨x, rfl, hx2⟩, hw⟩
    subst w2
    have hcx := hid (c118 x)
    go_wp2_with fail
    refine hcx.out.mono ?_
    rintro e w3 ⟨⟨t, b, rfl, ht, hbx⟩, hb⟩
    have hb' := hid hb
    have ht' := hid ht
    have hbx' := hid hbx
    clear hb ht hbx
    cases b
    · go_wp2_with fail
      refine ret5 rfl rfl ?_
      exact ⟨⟨_, _, _, _, _, rfl, e0, fun h => absurd h (by decide)⟩, hb'.out⟩
    · have := hx2 (hbx'.out rfl)
      go_wp2_with fail
      refine ret5 rfl rfl ?_
      exact ⟨⟨_, _, _, _, _, rfl, ht'.out, fun _ => ⟨p + 6, by omega, by omega, by omega⟩⟩, hb'.out⟩
  have q9 : (((s[p + 1]'h1p).toNat : Int) == 117) = false := by simp; omega
  go_wp2_with fail
  refine ret5 rfl rfl ?_
  exact ⟨⟨_, _, _, _, _, rfl, e0, fun h => absurd h (by decide)⟩, Below.refl _ _⟩

theorem decode_four (s : ByteArray) (p : Nat) : (Utf8.decode s p).2 ≤ 4 := by
  simp only [Utf8.decode]
  repeat' split
  all_goals simp
set_option maxRecDepth 100000 in
set_option maxHeartbeats 4000000 in
theorem thing102 (s : ByteArray) (p : Nat) (q : Int) (w : World) (hs : s.size ≤ 1048576) (hp : p < s.size) : Calls Tryz.prog 102 #[.string s, .int .i64 p, .int .u8 q] w (ThingR s p w) := by
  have e0 : (⟨#[]⟩ : ByteArray).size ≤ 4 := by decide
  have c110 := escape110 s p w hs hp
  have c69 := runeAt69 s p w hs hp
  have hfit := decode_fits s p hp
  have hwid := decode_wide s p
  have h4 := decode_four s p
  go_enter Tryz.func102, Tryz.ntmps102
  cases hq : ((s[p]'hp).toNat : Int) == q
  rotate_left
  · go_wp2_with fail
    refine ret5 rfl rfl ?_
    exact ⟨⟨_, _, _, _, _, rfl, e0, fun _ => ⟨p + 1, by omega, by omega, by omega⟩⟩, Below.refl _ _⟩
  by_cases h92 : (s[p]'hp).toNat = 92
  · have q1 : (((s[p]'hp).toNat : Int) == 92) = true := by simp; omega
    go_wp2_with fail
    refine c110.mono ?_
    rintro e w2 ⟨⟨t, r, en, b, er, rfl, ht, hen⟩, hb⟩
    have H := hid (And.intro ht (And.intro hen hb))
    clear ht hen hb
    go_wp2_with fail
    refine ret5 rfl rfl ?_
    exact ⟨⟨_, _, _, _, _, rfl, H.out.1, H.out.2.1⟩, H.out.2.2⟩
  have q1 : (((s[p]'hp).toNat : Int) == 92) = false := by simp; omega
  clear c110
  by_cases h32 : (s[p]'hp).toNat < 32
  · have q2 : ((s[p]'hp).toNat : Int) < 32 := by omega
    go_wp2_with fail
    refine ret5 rfl rfl ?_
    exact ⟨⟨_, _, _, _, _, rfl, e0, fun h => absurd h (by decide)⟩, Below.refl _ _⟩
  have q2 : ¬ ((s[p]'hp).toNat : Int) < 32 := by omega
  by_cases h127 : (s[p]'hp).toNat = 127
  · have q3 : (((s[p]'hp).toNat : Int) == 127) = true := by simp; omega
    go_wp2_with fail
    refine ret5 rfl rfl ?_
    exact ⟨⟨_, _, _, _, _, rfl, e0, fun h => absurd h (by decide)⟩, Below.refl _ _⟩
  have q3 : (((s[p]'hp).toNat : Int) == 127) = false := by simp; omega
  go_wp2_with fail
  refine c69.mono ?_
  rintro e w2 ⟨⟨r, n, rfl, hr⟩, hw⟩
  subst w2
  rcases codeAt_is hr with ⟨hn, _⟩ | ⟨hn, _, _⟩
  · have hn0 : ((n : Int) == 0) = true := by simp; omega
    have hn' := hid hn
    clear hn hr
    go_wp2_with fail
    refine ret5 rfl rfl ?_
    exact ⟨⟨_, _, _, _, _, rfl, e0, fun h => absurd h (by decide)⟩, Below.refl _ _⟩
  · have hn0 : ((n : Int) == 0) = false := by simp; omega
    have hx1 : p + n ≤ s.size := by omega
    have hx2 : 1 ≤ n := by omega
    have hx3 : n ≤ 4 := by omega
    clear hn hr
    go_wp2_with fail
    refine ret5 rfl rfl ?_
    exact ⟨⟨_, _, _, _, _, rfl, by simp; omega, fun _ => ⟨p + n, by omega, by omega, by omega⟩⟩, Below.refl _ _⟩
set_option maxRecDepth 100000 in
set_option maxHeartbeats 4000000 in
theorem rune87 (s : ByteArray) (w : World) (hs : s.size ≤ 1048576) : Calls Tryz.prog 87 #[.string s] w (Lit w) := by
  go_enter Tryz.func87, Tryz.ntmps87
  by_cases h0 : s.size = 0
  · have hq : ((s.size : Int) == 0) = true := by rw [h0]; rfl
    go_wp2_with fail
    go_ret3
    exact ⟨⟨_, _, _, rfl⟩, Below.refl _ _⟩
  have hq : ((s.size : Int) == 0) = false := beq_false_of_ne (by omega)
  have h9 : 0 < s.size := by omega
  by_cases h39 : (s[0]'h9).toNat = 39
  rotate_left
  · have hq2 : (((s[0]'h9).toNat : Int) != 39) = true := by simp; omega
    go_wp2_with fail
    go_ret3
    exact ⟨⟨_, _, _, rfl⟩, Below.refl _ _⟩
  have hq2 : (((s[0]'h9).toNat : Int) != 39) = false := by simp; omega
  by_cases h1 : s.size = 1
  · have hq1 : ((s.size : Int) == 1) = true := by simp; omega
    go_wp2_with fail
    go_ret3
    exact ⟨⟨_, _, _, rfl⟩, Below.refl _ _⟩
  have hq1 : ((s.size : Int) == 1) = false := by simp; omega
  have hc := hid (thing102 s 1 39 w hs (by omega))
  go_wp2_with fail
  refine hc.out.mono ?_
  rintro e w2 ⟨⟨t, r, en, b, er, rfl, ht, hen⟩, hb⟩
  have hb' := hid hb
  clear hb hc ht
  by_cases her : er = 0
  rotate_left
  · have hq3 : (er != 0) = true := by simpa using her
    go_wp2_with fail
    go_ret3
    exact ⟨⟨_, _, _, rfl⟩, hb'.out⟩
  obtain ⟨n, rfl, hn1, hn2⟩ := hen her
  subst her
  clear hen
  cases b
  rotate_left
  · go_wp2_with fail
    go_ret3
    exact ⟨⟨_, _, _, rfl⟩, hb'.out⟩
  by_cases hn : n < s.size
  · go_wp2_with fail
    all_goals
      go_ret3
      exact ⟨⟨_, _, _, rfl⟩, hb'.out⟩
  · go_wp2_with fail
    all_goals
      go_ret3
      exact ⟨⟨_, _, _, rfl⟩, hb'.out⟩

end Go.Proofs.YtecpkadjnecbiaaGreatDoor
