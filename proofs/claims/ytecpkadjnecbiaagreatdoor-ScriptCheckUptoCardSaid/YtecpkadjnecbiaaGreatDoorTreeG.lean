/- ScriptSame: units in memory; the same parameters. -/
import Derived.Test.YtecpkadjnecbiaaGreatDoorTreeF
namespace Go.Proofs.YtecpkadjnecbiaaGreatDoor
open Go.RowKit
set_option linter.unusedVariables false
set_option linter.unusedSimpArgs false

def sameL {α : Type} (f : α → α → Bool) : List α → List α → Bool
  | [], [] => true
  | a :: l, b :: r => f a b && sameL f l r
  | [], _ :: _ => false
  | _ :: _, [] => false
theorem sameL_len {α : Type} (f : α → α → Bool) : ∀ {l r : List α}, l.length ≠ r.length → sameL f l r = false
  | [], [], h => absurd rfl h
  | a :: l, b :: r, h => by
    have := sameL_len f (l := l) (r := r) (fun e => h (by simp [e]))
    simp [sameL, this]
  | [], _ :: _, _ => rfl
  | _ :: _, [], _ => rfl
theorem sameL_at {α : Type} (f : α → α → Bool) (l r : List α) (k : Nat) (h : k < l.length) (h' : k < r.length) : sameL f (l.drop k) (r.drop k) = (f l[k] r[k] && sameL f (l.drop (k + 1)) (r.drop (k + 1))) := by
  rw [List.drop_eq_getElem_cons h, List.drop_eq_getElem_cons h']
  rfl
theorem sameL_end {α : Type} (f : α → α → Bool) (l r : List α) (k : Nat) (h : l.length ≤ k) (h' : r.length ≤ k) : sameL f (l.drop k) (r.drop k) = true := by
  rw [List.drop_eq_nil_of_le h, List.drop_eq_nil_of_le h']
  rfl
theorem sameL_refl {α : Type} (f : α → α → Bool) (h : ∀ a, f a a = true) : ∀ l, sameL f l l = true
  | [] => rfl
  | a :: l => by simp [sameL, h, sameL_refl f h l]
theorem sameL_comm {α : Type} (f : α → α → Bool) (h : ∀ a b, f a b = f b a) : ∀ l r, sameL f l r = sameL f r l
  | [], [] => rfl
  | a :: l, b :: r => by simp only [sameL]; rw [h a b, sameL_comm f h l r]
  | [], _ :: _ => rfl
  | _ :: _, [] => rfl

abbrev PW := ByteArray × Int
def eqP (a b : PW) : Bool := a.1.toList == b.1.toList && a.2 == b.2
/-- parameters that lie at a place -/
def PsIn (w : World) (l : List PW) (b off : Nat) : Prop := ∀ i (h : i < l.length), w.cell? ⟨b, off + i * 2, none⟩ = some (.string l[i].1) ∧ w.cell? ⟨b, off + i * 2 + 1, none⟩ = some (.int .u8 l[i].2)
def SlP (w : World) (l : List PW) (v : Value) : Prop := ∃ ka kb koff kcap, v = .slice ka l.length kcap ∧ (l.length = 0 ∨ ka = some ⟨kb, koff, none⟩) ∧ PsIn w l kb koff
theorem PsIn.mono {w w' : World} {l : List PW} {b off : Nat} (h : PsIn w l b off) (hb : Below w.heap.size w w') : PsIn w' l b off := fun i hi => ⟨cell_on (h i hi).1 hb, cell_on (h i hi).2 hb⟩
theorem SlP.mono {w w' : World} {l : List PW} {v : Value} (h : SlP w l v) (hb : Below w.heap.size w w') : SlP w' l v := by
  obtain ⟨ka, kb, koff, kcap, rfl, y2, y3⟩ := h
  exact ⟨ka, kb, koff, kcap, rfl, y2, y3.mono hb⟩
theorem SlP.shape {w : World} {l : List PW} {v : Value} (h : SlP w l v) : ∃ a n c, v = .slice a n c := by
  obtain ⟨ka, kb, koff, kcap, rfl, -⟩ := h
  exact ⟨_, _, _, rfl⟩

set_option maxHeartbeats 1000000 in
set_option maxRecDepth 100000 in
set_option maxHeartbeats 1000000 in
set_option maxRecDepth 100000 in
theorem params49 (l l' : List PW) (v v' : Value) (w : World) (hs : l.length ≤ 100000000) (hv : SlP w l v) (hv' : SlP w l' v') :
    Calls Tryz.prog 23 #[v, v'] w fun e w' => e = .returned (.bool (sameL eqP l l')) ∧ Below w.heap.size w w' := by
  obtain ⟨ka, b, off, c, rfl, hka, hin⟩ := hv
  obtain ⟨ka', b', off', c', rfl, hka', hin'⟩ := hv'
  by_cases hq : l.length = l'.length
  · obtain ⟨m, hm⟩ : ∃ m, m = l.length := ⟨_, rfl⟩
    rw [← hm] at hka hq hs ⊢
    rw [← hq] at hka' ⊢
    have hQ := hid (And.intro hm hq)
    have hI := hid (And.intro hin hin')
    clear hin hin' hq hm
    go_enter Tryz.func23, Tryz.ntmps23
    go_wp2_with fail
    go_loopw [4, 5] (fun z i wr => ∃ (k : Nat), z = .bool false ∧ k ≤ m ∧ i = .int .i64 k ∧ sameL eqP l l' = sameL eqP (l.drop k) (l'.drop k) ∧ Below w.heap.size w wr) (fun _ i _ => m - (intOf i).toNat)
    case atStart => exact ⟨0, rfl, Nat.zero_le _, rfl, rfl, Below.refl _ _⟩
    case round =>
      obtain ⟨k, rfl, hk, rfl, hsm, hb⟩ := hrel
      have hB := hid hb
      by_cases hlt : k < m
      · have hA := hid (sameL_at eqP l l' k (by have := hQ.out; omega) (by have := hQ.out; omega))
        have hSm := hid (hsm.trans hA.out)
        obtain ⟨z0, z1⟩ := hI.out.1 k (by have := hQ.out; omega)
        obtain ⟨y0, y1⟩ := hI.out.2 k (by have := hQ.out; omega)
        have x0 := cell_on z0 hb
        have x1 := cell_on z1 hb
        have u0 := cell_on y0 hb
        have u1 := cell_on y1 hb
        have hka2 : ka = some ⟨b, off, none⟩ := by rcases hka with q | q; (· omega); (· exact q)
        have hka2' : ka' = some ⟨b', off', none⟩ := by rcases hka' with q | q; (· omega); (· exact q)
        subst hka2 hka2'
        clear hka hka' z0 z1 y0 y1 hb hsm hA
        generalize l[k]'(by have := hQ.out; omega) = a at *
        generalize l'[k]'(by have := hQ.out; omega) = a' at *
        obtain ⟨n1, t1⟩ := a
        obtain ⟨n2, t2⟩ := a'
        simp only [] at x0 x1 u0 u1
        go_wp2_with fail
        have hnq := fun W : World => run_neq83 W n1 n2 t1 t2
        have hgd := gd83
        obtain ⟨c0, hc0⟩ : ∃ c0, c0 = (n1.toList == n2.toList && t1 == t2) := ⟨_, rfl⟩
        rw [← hc0] at hnq
        have hM : Hid (sameL eqP l l' = (c0 && sameL eqP (l.drop (k + 1)) (l'.drop (k + 1)))) := hid (by rw [hSm.out, hc0]; rfl)
        clear hc0 hSm
        go_region
        all_goals
          clear hnq hgd
          cases c0
          · go_wp2_with fail
            go_ret
            exact ⟨ret_bool (by rw [hM.out]; rfl), hB.out.drew⟩
          · go_wp2_with fail
            go_roundw
            case rel => exact ⟨k + 1, rfl, by omega, by go_num, by rw [hM.out]; rfl, hB.out.drew⟩
            case measure => simp [intOf]; omega
      · obtain rfl : k = m := by omega
        have hE := hid (hsm.trans (sameL_end eqP l l' k (by have := hQ.out; omega) (by have := hQ.out; omega)))
        clear hsm hb
        go_wp2_with fail
        go_ret
        exact ⟨ret_bool hE.out.symm, hB.out⟩
  · have hbq : ((l.length : Int) != (l'.length : Int)) = true := by simp; omega
    have hf := hid (sameL_len eqP hq)
    clear hs hin hin' hka hka' hq
    go_enter Tryz.func23, Tryz.ntmps23
    go_wp2_with fail
    go_ret
    exact ⟨ret_bool hf.out.symm, Below.refl _ _⟩

end Go.Proofs.YtecpkadjnecbiaaGreatDoor
