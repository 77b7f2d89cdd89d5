/- Walks: figured, signed, fit, IndexByte: they answer, and where. No condition. -/
import Derived.Test.YtecpkadjnecbiaaGreatDoorProg
import Derived.Test.YtecpkadjnecbiaaGreatDoorTokF
namespace Go.Proofs.YtecpkadjnecbiaaGreatDoor
open Go.RowKit
set_option linter.unusedVariables false
set_option linter.unusedSimpArgs false

open Go.Shelf
attribute [local go_sem] Oper.semAt_some

theorem merge8 {P : Program} {ops} {b : Bool} {y : Code} {Q : Exit → Act → World → Prop} {a : Act} {w : World} (R : Act → World → Prop)
    (h1 : ∀ K : Act → World → Prop, (∀ a w, R a w → K a w) → (Code.region 8 ops b).wp P (Exit.then K Q) a w) (h2 : ∀ a w, R a w → y.wp P Q a w) : (Code.seq (Code.region 8 ops b) y).wp P Q a w :=
  wp_seq_k fun K hK => h1 K (fun a w h => hK a w (h2 a w h))

set_option maxRecDepth 100000 in
set_option maxHeartbeats 40000000 in
theorem figured79 (s : ByteArray) (p : Nat) (w : World) (hs : s.size ≤ 1048576) (hp : p < s.size) (hd : digitB ((s[p]'hp).toNat : Int) = true) : Calls Tryz.prog 79 #[.string s, .int .i64 p] w
    fun e w' => (∃ k : Nat, e = .returned (.int .i64 k) ∧ p < k ∧ k ≤ s.size) ∧ w' = w := by
  have hcall := fun t (ht : t.size = 2) => prefix97 (s.extract p s.size) t w (by simp; omega) (by omega)
  have hdig := fun r => digit77 r w
  go_enter Tryz.func79, Tryz.ntmps79
  go_wp2_with (go_at_call 97; refine (hcall _ rfl).mono ?_; rintro e w' ⟨rfl, hw⟩; subst w')
  rotate_left
  cases hP : prefixed (s.extract p s.size) ⟨#[48, 88]⟩
  all_goals
    go_loopw [6] (fun x wr => ∃ k : Nat, x = .int .i64 k ∧ p ≤ k ∧ k ≤ s.size ∧ wr = w) (fun x _ => s.size - (intOf x).toNat)
    case atStart => exact ⟨p, rfl, Nat.le_refl _, by omega, rfl⟩
    case round =>
      obtain ⟨k, rfl, hk, hk2, hw⟩ := hrel; subst wr
      by_cases hlt : k < s.size
      · have hwr : wrap32 ((s[k]'hlt).toNat : Int) = ((s[k]'hlt).toNat : Int) := by have := (s[k]'hlt).toNat_lt; unfold wrap32; omega
        by_cases hkp : k = p
        · subst hkp
          have hc77 := hdig ((s[k]'hlt).toNat : Int)
          rw [hd] at hc77
          go_wp2_with fail
          refine hc77.mono ?_
          rintro e w' ⟨rfl, hw⟩
          subst w'
          go_wp2_with fail
          all_goals
            go_roundw
            case rel => exact ⟨k + 1, by go_num, by omega, by omega, trivial⟩
            case measure => simp [intOf]; omega
        · have hgt : p < k := by omega
          have hc77 := hdig ((s[k]'hlt).toNat : Int)
          clear hdig hcall
          refine wp_seq_k fun K1 h1 => ?_
          have h1' := hid h1
          clear h1
          go_wp2_with fail
          refine h1'.out _ _ (wp_block ?_)
          clear h1' K1
          iterate 3
            refine wp_seq_k fun K1 h1 => ?_
            have h1' := hid h1
            clear h1
            go_wp2_with fail
            refine h1'.out _ _ ?_
            clear h1' K1
          apply merge8 (fun a' w' => w' = w ∧ ∃ (b9 : Bool) (x8 x31 x32 x33 x34 x35 x36 x37 x38 x39 x40 x41 x42 x43 x44 x45 x46 x47 x48 : Value), a' = ⟨#[_, _, _, _, _, _, _, _, x8, .bool b9, _, _, _, _, _, _, _, _, _, _, _, _, _, _, _, _, _, _, _, _, _, x31, x32, x33, x34, x35, x36, x37, x38, x39, x40, x41, x42, x43, x44, x45, x46, x47, x48, _, _, _, _, _, _, _, _, _, _, _, _, _, _, _, _, _, _, _, _, _, _, _, _, _, _, _, _, _, _, _, _, _, _], []⟩)
          case h1 =>
            intro K hK
            have hK' := hid hK
            clear hK
            go_wp2_with fail
            all_goals
              have hK := hK'.out
              exact hK _ _ ⟨rfl, _, _, _, _, _, _, _, _, _, _, _, _, _, _, _, _, _, _, _, _, rfl⟩
          case h2 =>
            rintro _ _ ⟨rfl, b9, x8, x31, x32, x33, x34, x35, x36, x37, x38, x39, x40, x41, x42, x43, x44, x45, x46, x47, x48, rfl⟩
            go_wp2_with (go_at_call 77; refine hc77.mono ?_; rintro e w' ⟨rfl, hw⟩; subst w')
            all_goals first
              | (go_roundw
                 case rel => exact ⟨k + 1, by go_num, by omega, by omega, trivial⟩
                 case measure => simp [intOf]; omega)
              | (go_ret
                 exact ⟨⟨k, rfl, by omega, hk2⟩, rfl⟩)
      · go_wp2_with fail
        go_ret
        exact ⟨⟨k, rfl, by omega, hk2⟩, rfl⟩

end Go.Proofs.YtecpkadjnecbiaaGreatDoor
