/- Walks: decimal digits of the document. No condition. -/
import Derived.Laws.AppendOwnNone
import Derived.OwnWalk
import Derived.Lib.ItoaNum
import Derived.Test.YtjkgffehafaolaaDoorKit
import Derived.Test.YtjkgffehafaolaaDoorProg
namespace Go.Proofs.YtjkgffehafaolaaDoor
open Go.RowKit
set_option linter.unusedVariables false
set_option linter.unusedSimpArgs false

/-- Append of a slice of integers that lies somewhere, or is nil. -/
theorem wpList_append_ints {P : Program} {w : World} {ops : Array Oper} {rest : List Oper} {o : Oper} {a : Act} {Q : Exit → Act → World → Prop} (hgd : o.guard = none) (s x : Operand) (t : TypeId)
    (ho : o.op = .call { callee := .builtin .append, args := #[s, x], argTypes := #[t, t] })
    (base : Nat) (e : TypeId) (k : IntKind) (z : Value) (bytes : Nat) (ht : P.underlying t = some (.slice e)) (hinfo : (P.info? e).map (fun i => (i.zero, i.size, i.bytes)) = some (some z, 1, bytes))
    (hzs : z.cells.size = 1)
    (v : Value) (n : Nat) (xs : List Value) (hown : w.ownsRow base e 1 v n xs) (ao : Option Addr) (cap : Nat) (l : List Int) (hI : Ints k w ao l) (hno : ao = none → cap = 0)
    (h63 : n + l.length ≤ maxLen) (hbytes : (n + l.length) * bytes ≤ 140737488355328) (hbase : base ≤ w.heap.size)
    (hs : a.eval s = v) (hx : a.eval x = .slice ao l.length cap)
    (h : ∀ v' w', w'.ownsRow base e 1 v' (n + l.length) (xs ++ l.map (Value.int k)) → Below base w w' → wpList P ops Q rest (a.put o.dst v') w') :
    wpList P ops Q (o :: rest) a w := by
  cases ao with
  | none =>
    have hl : l = [] := by
      rcases hI.cell with h0 | ⟨b, off, h0, _⟩
      · exact List.eq_nil_of_length_eq_zero (by omega)
      · cases h0
    subst hl
    obtain ⟨i, hi, hz0, hz1, hz2⟩ := info_parts hinfo
    rw [hno rfl] at hx
    have hrun := run_append_owned_none (P := P) (w := w) base t o.type e i 1 ht hi v n xs hown
    refine wpList_plain hgd fun K hK => ?_
    unfold Oper.wp execOp
    simp only [ho, resolve, invoke, builtin, Sem.run_bind, Sem.run_pure, Result.andThen_ok, List.map_toArray, List.map_cons, List.map_nil, hs, hx]
    have hrun' : (Builtin.append_ #[t, t] o.type #[v, .slice none ([] : List Int).length 0]).run P w = .ok v w := hrun
    rw [hrun']
    exact hK _ _ (h v w (by simpa using hown) (Below.refl _ _))
  | some ad =>
    exact wpList_append_src hgd s x t ho base e z 1 bytes ht hinfo hzs (by decide) v n xs hown ad l.length cap (l.map (Value.int k)) (by simp) hI.news (ints_one k l) h63 hbytes hbase hs hx (fun v' w' h1 h2 _ => h v' w' h1 h2)


set_option maxHeartbeats 1000000 in
set_option maxRecDepth 100000 in
theorem nat27 (u : Nat) (hu : u < 4294967296) (w : World) :
    Calls Tryd.prog 27 #[.int .u64 u] w fun e w' => e = .returned (.slice (some ⟨w.heap.size, 0, none⟩) (if u = 0 then 0 else 1) 2) ∧ w' = w.alloc (.cells #[.int .u32 u, .int .u32 0] 67) := by
  have hw1 : IntKind.u32.wrap (u : Int) = u := by rw [IntKind.wrap_u32]; omega
  have hs : (u : Int) / 4294967296 = 0 := by omega
  have hs' : u / 4294967296 = 0 := by omega
  by_cases h0 : u = 0
  · subst h0
    go_enter Tryd.func27, Tryd.ntmps27
    go_wp2_with fail
    refine wp_loop_rounds 3 ?_
    rw [rounds_succ]
    go_wp2_with fail
    rw [rounds_succ]
    go_wp2_with fail
    rw [rounds_succ]
    go_wp2_with fail
    go_ret
    exact ⟨rfl, rfl⟩
  · have hq : ((u : Int) == 0) = false := by simp [h0]
    have hq' : ((u : Int) = 0) = False := eq_false (by omega)
    go_enter Tryd.func27, Tryd.ntmps27
    go_wp2_with fail
    refine wp_loop_rounds 2 ?_
    rw [rounds_succ]
    go_wp2_with fail
    rw [rounds_succ]
    go_wp2_with fail
    go_ret
    exact ⟨rfl, rfl⟩

def lenOf : Value → Nat
  | .slice _ n _ => n
  | _ => 0
theorem decDigits_ten (u : Nat) (h : 10 ≤ u) : Lib.decDigits u = Lib.decDigits (u / 10) ++ [UInt8.ofNat (48 + u % 10)] := by
  rw [Lib.decDigits, dif_neg (by omega)]
/-- what is written so far: the digits of u, the last k of them -/
def Wr (u0 u : Nat) (ds : List Int) : Prop := (Lib.decDigits u0).map (fun b => (b.toNat : Int)) = (if u = 0 then [] else (Lib.decDigits u).map fun b => (b.toNat : Int)) ++ ds
theorem Wr.step {u0 u : Nat} {ds : List Int} (h : Wr u0 u ds) (hu : u ≠ 0) : Wr u0 (u / 10) ((48 + ((u % 10 : Nat) : Int)) :: ds) := by
  unfold Wr at h ⊢
  rw [h, if_neg hu]
  have hb : ((UInt8.ofNat (48 + u % 10)).toNat : Int) = 48 + ((u % 10 : Nat) : Int) := by
    have : u % 10 < 10 := Nat.mod_lt _ (by decide)
    rw [UInt8.toNat_ofNat', Nat.mod_eq_of_lt (by omega)]; omega
  by_cases h10 : u < 10
  · rw [if_pos (by omega), Lib.decDigits, dif_pos h10]
    have e : u % 10 = u := Nat.mod_eq_of_lt h10
    rw [e] at hb ⊢
    simp [hb]
    omega
  · rw [if_neg (by omega), decDigits_ten u (by omega), List.map_append]
    simp [hb]
    omega

set_option maxHeartbeats 1000000 in
set_option maxRecDepth 100000 in
theorem decimal26 (g m c : Nat) (u0 : Nat) (hu : u0 < 4294967296) (w : World) (hm : m = if u0 = 0 then 0 else 1) (hc : m ≤ c) (hcell : u0 ≠ 0 → w.cell? ⟨g, 0, none⟩ = some (.int .u32 u0)) :
    Calls Tryd.prog 26 #[.slice (some ⟨g, 0, none⟩) m c] w fun e w' => e = .returned (.string ⟨(Lib.decDigits u0).toArray⟩) ∧ Below w.heap.size w w' := by
  have hC := hid hcell
  clear hcell
  by_cases h0 : u0 = 0
  · subst h0
    obtain rfl : m = 0 := hm
    go_enter Tryd.func26, Tryd.ntmps26
    go_wp2_with fail
    refine wp_loop_rounds 1 ?_
    rw [rounds_succ]
    go_wp2_with fail
    go_ret
    refine ⟨?_, Below.refl _ _⟩
    rw [Lib.decDigits]
    rfl
  · rw [if_neg h0] at hm
    subst hm
    go_enter Tryd.func26, Tryd.ntmps26
    go_wp2_with fail
    go_loopw [0, 3] (fun v d wr => ∃ (u m g c : Nat) (ds : List Int) (d0 : Value), v = .slice (some ⟨g, 0, none⟩) m c ∧ d0 = d ∧ m = (if u = 0 then 0 else 1) ∧ m ≤ c ∧ (u ≠ 0 → wr.cell? ⟨g, 0, none⟩ = some (.int .u32 u)) ∧ u * 10 ^ ds.length ≤ u0 ∧ Wr u0 u ds ∧ wr.ownsRow w.heap.size 5 1 d0 ds.length (ds.map (Value.int .u8)) ∧ (∀ x ∈ ds, 48 ≤ x ∧ x ≤ 57) ∧ Below w.heap.size w wr) (fun _ d _ => 11 - lenOf d)
    case atStart => exact ⟨u0, 1, g, c, [], _, rfl, rfl, (if_neg h0).symm, hc, hC.out, by simp, by simp [Wr, h0], World.ownsRow_nil _ _ 5 1, fun x hx => absurd hx (by simp), Below.refl _ _⟩
    case round =>
      clear hC
      obtain ⟨u, m, g, c, ds, d0, rfl, rfl, hm, hmc, hcell, hle, hwr, ho, hds, hb⟩ := hrel
      have hO := hid ho
      have hB := hid hb
      have hWr := hid hwr
      have hDs := hid hds
      have hLe := hid hle
      clear ho hb hwr hds hle
      by_cases hu0 : u = 0
      · subst hu0
        obtain rfl : m = 0 := hm
        have hWr0 : Hid ((Lib.decDigits u0).map (fun b => (b.toNat : Int)) = ds) := by
          have := hWr.out
          unfold Wr at this
          simpa [Hid] using this
        have hpos : 0 < ds.length := by
          rw [← hWr0.out, List.length_map]
          rw [Lib.decDigits]
          split <;> simp
        obtain ⟨dg, dc, hdv, -⟩ := own_shape hO.out hpos
        subst hdv
        have hdl : Hid ((Lib.decDigits u0).length = ds.length) := by rw [← hWr0.out, List.length_map]; rfl
        have hcv : (convert 56 9 (.slice (some ⟨dg, 0, none⟩) ds.length dc)).run Tryd.prog wr = .ok (.string ⟨(Lib.decDigits u0).toArray⟩) wr := by
          have h := run_convert_bytes_back (P := Tryd.prog) wr 56 9 5 ⟨dg, 0, none⟩ dc (Lib.decDigits u0) Tryd.underlying56 Tryd.underlying5 Tryd.underlying9
          refine h (fun j hj => ?_) |> fun h => by rw [hdl.out] at h; exact h
          have hj' : j < ds.length := by rw [← hdl.out]; exact hj
          rw [show (⟨dg, 0, none⟩ : Addr).add j = ⟨dg, j, none⟩ by unfold Addr.add; split <;> simp_all, hO.out.cellAt j (by omega), List.getElem?_map, List.getElem?_eq_getElem hj', Option.map_some]
          have := congrArg (fun l => l[j]?) hWr0.out
          simp only [List.getElem?_map, List.getElem?_eq_getElem hj, List.getElem?_eq_getElem hj', Option.map_some, Option.some.injEq] at this
          rw [this]
        have hn0 : ((ds.length : Int) == 0) = false := beq_eq_false_iff_ne.2 (by omega)
        go_wp2_with fail
        go_ret
        exact ⟨rfl, hB.out⟩
      · rw [if_neg hu0] at hm
        subst hm
        have hc0 := hcell hu0
        have hub : u ≤ u0 := by
          have := hLe.out
          have h1 : 0 < 10 ^ ds.length := Nat.pow_pos (by decide)
          have := Nat.le_mul_of_pos_right u h1
          omega
        have hw1 : IntKind.u64.wrap (u : Int) = u := by rw [IntKind.wrap_u64]; omega
        have hw2 : IntKind.u32.wrap ((u : Int) / 10) = (u : Int) / 10 := by rw [IntKind.wrap_u32]; omega
        have hw3 : IntKind.u8.wrap (48 + (u : Int) % 10) = 48 + (u : Int) % 10 := by rw [IntKind.wrap_u8]; omega
        go_wp2_with fail
        refine wp_loop_rounds 2 ?_
        rw [rounds_succ]
        go_wp2_with fail
        rw [rounds_succ]
        have hdk : ds.length ≤ 10 := by
          rcases Nat.lt_or_ge 10 ds.length with h | h
          · have h1 := Nat.pow_le_pow_right (n := 10) (by decide) h
            have h2 := Nat.mul_le_mul_right (10 ^ ds.length) (show 1 ≤ u by omega)
            have := hLe.out
            omega
          · exact h
        have hdk9 : Hid (ds.length ≤ 9) := by
          rcases Nat.lt_or_ge 9 ds.length with h | h
          · have h1 := Nat.pow_le_pow_right (n := 10) (by decide) h
            have h2 := Nat.mul_le_mul_right (10 ^ ds.length) (show 1 ≤ u by omega)
            have := hLe.out
            omega
          · exact h
        obtain ⟨dao, dc, hdv, hdn, hDI⟩ : ∃ dao dc, d0 = .slice dao ds.length dc ∧ (dao = none → dc = 0) ∧ Ints .u8 wr dao ds := by
          obtain ⟨ao', c', hv, hI, -⟩ := ints_of_own hO.out (fun x hx => by have := hDs.out x hx; exact wf_u8.2 (by omega))
          refine ⟨ao', c', hv, fun hn => ?_, hI⟩
          rcases hO.out.2 with ⟨h1, _⟩ | ⟨g', cap', cur, h1, _⟩
          · rw [hv] at h1; simp only [Value.slice.injEq] at h1; exact h1.2.2
          · rw [hv, hn] at h1; simp at h1
        subst hdv
        have hDI' := hid hDI
        have hq := hid (show Wr u0 (u / 10) ((48 + ((u % 10 : Nat) : Int)) :: ds) from Wr.step hWr.out hu0)
        have hce : ((48 + ((u % 10 : Nat) : Int)) :: ds) = (48 + (u : Int) % 10) :: ds := by simp
        have hcE := hid hce
        clear hDI hce hdn
        have hdn : dao = none → dc = 0 := by
          intro hn
          rcases hO.out.2 with ⟨h1, _⟩ | ⟨g', cap', cur, h1, _⟩
          · simp only [Value.slice.injEq] at h1; exact h1.2.2
          · rw [hn] at h1; simp at h1
        have hdn' := hid hdn
        clear hdn
        have hlit : Hid (((wr.alloc (.cells #[.int .u32 ((u : Int) / 10)] 67)).alloc (.cells #[.int .u8 (48 + (u : Int) % 10)] 5)).ownsRow (wr.heap.size + 1) 5 1 (.slice (some ⟨wr.heap.size + 1, 0, none⟩) 1 1) 1 [.int .u8 (48 + (u : Int) % 10)]) := by
          have := World.ownsRow_lit (e := 5) (size := 1) (wr.alloc (.cells #[.int .u32 ((u : Int) / 10)] 67)) #[.int .u8 (48 + (u : Int) % 10)] 1 (Nat.le_refl _) (by decide) rfl
          simpa [Hid] using this
        go_wp2_with (at_builtin; go_must (refine wpList_append_ints rfl _ _ 56 rfl (wr.heap.size + 1) 5 .u8 (.int .u8 0) 1 Tryd.underlying56 (by kernel_rfl) rfl _ 1 [.int .u8 (48 + (u : Int) % 10)] hlit.out dao dc ds (hDI'.out.mono (((Below.refl _ _).alloc (Nat.le_refl _) _).alloc (by simp) _)) hdn'.out (by unfold maxLen; omega) (by omega) (by simp) rfl rfl ?_); intro v' w2 hown' hb')
        obtain ⟨vg, vc, hvv, -⟩ := own_shape hown' (by omega)
        subst hvv
        have hO2 : Hid (w2.ownsRow w.heap.size 5 1 (.slice (some ⟨vg, 0, none⟩) (1 + ds.length) vc) ((48 + ((u % 10 : Nat) : Int)) :: ds).length (((48 + ((u % 10 : Nat) : Int)) :: ds).map (Value.int .u8))) := by
          have h1 := own_base hown' (show w.heap.size ≤ wr.heap.size + 1 by have := hB.out.size; omega)
          rw [hcE.out, List.length_cons, show ds.length + 1 = 1 + ds.length by omega]
          simpa [Hid] using h1
        have hB2 := hid (hB.out.trans ((((Below.refl wr.heap.size wr).alloc (Nat.le_refl _) (.cells #[.int .u32 ((u : Int) / 10)] 67)).alloc (by simp) (.cells #[.int .u8 (48 + (u : Int) % 10)] 5)).trans (hb'.mono (by omega)) |>.mono hB.out.size))
        have hcq : Hid (w2.cell? ⟨wr.heap.size, 0, none⟩ = some (.int .u32 ((u : Int) / 10))) := (hb'.cell (by simp)).trans ((World.grownBy_alloc _ _ none).cell (by simp) (by simp))
        have hpw : Hid (u / 10 * 10 ^ ((48 + ((u % 10 : Nat) : Int)) :: ds).length ≤ u0) := by
          unfold Hid
          rw [List.length_cons, Nat.pow_succ, Nat.mul_comm (10 ^ ds.length) 10, ← Nat.mul_assoc]
          exact Nat.le_trans (Nat.mul_le_mul_right _ (Nat.div_mul_le_self u 10)) hLe.out
        have hds2 : Hid (∀ x ∈ ((48 + ((u % 10 : Nat) : Int)) :: ds), 48 ≤ x ∧ x ≤ 57) := fun x hx => by
          rcases List.mem_cons.1 hx with rfl | hx
          · omega
          · exact hDs.out x hx
        clear hown' hb' hlit hDI' hdn' hw2 hw3 hc0 hcell
        by_cases hq0 : u / 10 = 0
        · have hcz : w2.cell? ⟨wr.heap.size, 0, none⟩ = some (.int .u32 0) := by rw [hcq.out, show (u : Int) / 10 = 0 by omega]
          have hQ0 := hid hq0
          clear hq0
          refine wp_loop_rounds 2 ?_
          rw [rounds_succ]
          go_wp2_with fail
          rw [rounds_succ]
          go_wp2_with fail
          go_roundw
          case rel => exact ⟨u / 10, 0, wr.heap.size, 1, (48 + ((u % 10 : Nat) : Int)) :: ds, _, rfl, rfl, by rw [if_pos hQ0.out], by omega, fun h => absurd hQ0.out h, hpw.out, hq.out, hO2.out, hds2.out, hB2.out⟩
          case measure => have := hdk9.out; simp [lenOf]; omega
        · have hcz := hcq.out
          have hQ0 := hid hq0
          have hne : ((u : Int) / 10 == 0) = false := beq_eq_false_iff_ne.2 (by omega)
          clear hq0
          refine wp_loop_rounds 1 ?_
          rw [rounds_succ]
          go_wp2_with fail
          go_roundw
          case rel => exact ⟨u / 10, 1, wr.heap.size, 1, (48 + ((u % 10 : Nat) : Int)) :: ds, _, rfl, rfl, by rw [if_neg hQ0.out], by omega, fun _ => by simpa using hcq.out, hpw.out, hq.out, hO2.out, hds2.out, hB2.out⟩
          case measure => have := hdk9.out; simp [lenOf]; omega

end Go.Proofs.YtjkgffehafaolaaDoor
