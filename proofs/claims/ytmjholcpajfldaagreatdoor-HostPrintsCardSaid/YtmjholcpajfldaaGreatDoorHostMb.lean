/- Walks: a host made of a state. No condition. -/
import Derived.Test.YtmjholcpajfldaaGreatDoorHostMa
import Derived.Test.YtmjholcpajfldaaGreatDoorHostS
namespace Go.Proofs.YtmjholcpajfldaaGreatDoor
open Go.RowKit
set_option linter.unusedVariables false
set_option linter.unusedSimpArgs false

set_option maxRecDepth 100000

theorem nameMay26' (s : ByteArray) (w : World) : Calls Tryz.prog 26 #[.string s] w fun e w' => e = .returned (.bool (nmB s)) ∧ Below w.heap.size w w' := by
  by_cases h2 : s.size ≤ 32
  · exact nameMay26 s (by omega) w
  · have h1 : 1 ≤ s.size := by omega
    have hn : Hid (nmB s = false) := hid (by unfold nmB; simp [h2])
    have e1 : ((1 : Int) ≤ (s.size : Int)) = True := eq_true (by omega)
    have e2 : ((s.size : Int) ≤ 32) = False := eq_false (by omega)
    go_enter Tryz.func26, Tryz.ntmps26
    go_wp2_with fail
    go_ret
    rw [hn.out]
    exact ⟨by simp [h2], Below.refl _ _⟩
theorem bv_get (l : List UInt8) (j : Nat) (h : j < l.length) : (bv l)[j]? = some (.int .u8 ((l.getD j 0).toNat : Int)) := by
  simp [bv, List.getElem?_eq_getElem h, List.getD]
theorem clone27 (co : Option Addr) (m cc : Nat) (con : List UInt8) (hcl : con.length = m) (w : World) (hb : By w co con) (hm : m ≤ 1048576) :
    Calls Tryz.prog 27 #[.slice co m cc] w fun e w' => ∃ v', e = .returned v' ∧ w'.ownsRow w.heap.size 5 1 v' con.length (bv con) ∧ Below w.heap.size w w' := by
  have qT : ∀ (w : World) (a : Option Addr) (n c n' c' : Nat), (binOp .eql 27 (.slice a n c) (.slice none n' c')).run Tryz.prog w = .ok (.bool a.isNone) w := fun w a n c n' c' => Lib.run_eql_slice_nil w _ _ a n c n' c' Tryz.underlying27
  cases co with
  | none =>
    obtain ⟨b, off, h1, -⟩ := hb.cell
    have h0 : con = [] := List.eq_nil_of_length_eq_zero (by rcases h1 with h1 | h1; omega; cases h1)
    subst h0
    clear h1 hb
    go_enter Tryz.func27, Tryz.ntmps27
    go_wp2_with fail
    go_ret
    exact ⟨_, rfl, World.ownsRow_nil _ _ _ _, Below.refl _ _⟩
  | some ad =>
    have hrow := hid (ownsRow_empty w 5 1)
    have hB := hid ((Below.refl w.heap.size w).alloc (Nat.le_refl _) (.cells #[] 5))
    have hc : Hid (∀ j u, (bv con)[j]? = some u → (w.alloc (.cells #[] 5)).cell? (ad.add j) = some u) := hid (fun j u hj => by
      have hj2 : j < con.length := by
        have := (List.getElem?_eq_some_iff.1 hj).1
        rwa [bv_len] at this
      obtain ⟨b, off, h1, h2⟩ := (hb.below hB.out).cell
      obtain rfl : ad = ⟨b, off, none⟩ := by simpa using h1.resolve_left (by omega)
      rw [bv_get _ _ hj2] at hj
      rw [← hj, show (⟨b, off, none⟩ : Addr).add j = ⟨b, off + j, none⟩ by unfold Addr.add; split <;> simp_all]
      exact h2 j hj2)
    have hl : (bv con).length = m * 1 := by rw [bv_len]; omega
    have h1 := hid (bv_one con)
    clear hb
    have hcl2 := hid hcl
    clear hcl
    go_enter Tryz.func27, Tryz.ntmps27
    go_wp2_with (at_builtin; refine wpList_append_all rfl _ _ 27 rfl w.heap.size 5 (.int .u8 0) 1 1 m Tryz.underlying27 (by kernel_rfl) rfl (by decide) _ 0 [] hrow.out ad cc (bv con) hl hc.out h1.out (by unfold maxLen; omega) (by omega) (by simp) rfl rfl ?_; intro v' w' hA; have hR := hid hA.own; have hB2 := hid (hB.out.trans (below_of_own hA hrow.out (by simp))); clear hA)
    go_ret
    refine ⟨_, rfl, ?_, hB2.out⟩
    have := hR.out
    rw [hcl2.out]
    rwa [Nat.zero_add, List.nil_append] at this

end Go.Proofs.YtmjholcpajfldaaGreatDoor
