/- A host's state that came in, opened. No condition. -/
import Derived.Test.YtmjholcpajfldaaGreatDoorHostMa
import Derived.Test.YtmjholcpajfldaaGreatDoorFrame
namespace Go.Proofs.YtmjholcpajfldaaGreatDoor
open Go.RowKit
set_option linter.unusedVariables false
set_option linter.unusedSimpArgs false

set_option maxRecDepth 100000
open Go.ChangeShapes Go.WideShapes Go.ChangeAt

theorem sized_first {H : Type} {P : Program} {t : TypeId} {ts : List TypeId} {d : DataW H} {ds : List (DataW H)} (h : (DataW.weightsEach P (t :: ts) (d :: ds)).all (· ≤ reachBytes) = true) : (DataW.weights P t d).all (· ≤ reachBytes) = true := by
  simp only [DataW.weightsEach, List.all_append, Bool.and_eq_true] at h
  exact h.1
section
variable {H : Type} {enc : TypeId × Value → H} {w : World}
theorem cells_get {base : Nat} {a : Addr} {n : Nat} {cs : List Value} (h : w.cells? base a n = some cs) : cs.length = n ∧ ∀ j, j < n → w.cell? (a.add j) = cs[j]? := by
  unfold World.cells? at h
  split at h
  · have hl := mapM_some_length h
    rw [List.length_range] at hl
    refine ⟨hl, fun j hj => ?_⟩
    have := mapM_some_get h j j (by simp [hj])
    exact this
  · simp at h
theorem add_plain' (b o j : Nat) : (⟨b, o, none⟩ : Addr).add j = ⟨b, o + j, none⟩ := by
  unfold Addr.add
  split
  · rename_i h; subst h; rfl
  · rfl
/-- A slice that came in, row by row. -/
theorem rows_open {P : Program} {t e : TypeId} {c fuel : Nat} {v : Value} {y : DataW H × List MemPlace} (ht : P.underlying t = some (.slice e)) (hc : P.cellsOf e = c) (hpos : 0 < c)
    (h : DataW.trod enc P w 0 (fun _ => true) true fuel t [v] = some y) :
    ∃ (a : Option Addr) (b off n cap : Nat) (elems : List (DataW H × List MemPlace)), v = .slice a elems.length cap ∧ (elems.length ≤ 0 ∨ a = some ⟨b, off, none⟩) ∧ (elems.length = 0 ∨ ∃ sp, y.1 = .slice (elems.map (·.1)) sp) ∧
      ∀ i (hi : i < elems.length), ∃ cs : List Value, cs.length = c ∧ (∀ j, j < c → w.cell? ⟨b, off + i * c + j, none⟩ = cs[j]?) ∧ DataW.trod enc P w 0 (fun _ => true) true n e cs = some elems[i] := by
  rcases DataW.trod_slice ht h with ⟨hcs, hx⟩ | ⟨x, l, c', elems, rest, n, hfu, hcs, hx, _, hl, hm, hel, heach, hsp, _⟩
  · simp only [List.cons.injEq, and_true] at hcs
    subst hcs
    exact ⟨none, 0, 0, 0, 0, [], rfl, .inl (Nat.le_refl _), .inl rfl, fun i hi => by simp at hi⟩
  · simp only [List.cons.injEq, and_true] at hcs
    subst hcs
    have hw : elems.length = 0 ∨ ∃ sp, y.1 = .slice (elems.map (·.1)) sp := .inr (by rw [hx]; exact ⟨_, rfl⟩)
    have each : ∀ i (hi : i < elems.length), ∃ cs : List Value, cs.length = c ∧ (∀ j, j < c → w.cell? ((x.add (i * c)).add j) = cs[j]?) ∧ DataW.trod enc P w 0 (fun _ => true) true n e cs = some elems[i] := by
      intro i hi
      have h1 := heach i (by omega)
      rw [List.getElem?_eq_getElem hi, Option.bind_eq_some_iff] at h1
      obtain ⟨cs, h2, h3⟩ := h1
      rw [hc] at h2
      obtain ⟨h4, h5⟩ := cells_get h2
      exact ⟨cs, h4, h5, h3⟩
    by_cases h0 : elems.length = 0
    · exact ⟨some x, 0, 0, n, c', elems, by rw [hel], .inl (by omega), hw, fun i hi => by omega⟩
    · obtain ⟨b, off, spot⟩ := x
      have hspot : spot = none := by
        obtain ⟨cs, h1, h2, _⟩ := each 0 (by omega)
        have := h2 0 hpos
        rw [List.getElem?_eq_getElem (by omega)] at this
        simpa [Addr.add] using World.cell?_spot this
      subst hspot
      refine ⟨some ⟨b, off, none⟩, b, off, n, c', elems, by rw [hel], .inr rfl, hw, fun i hi => ?_⟩
      obtain ⟨cs, h1, h2, h3⟩ := each i hi
      refine ⟨cs, h1, fun j hj => ?_, h3⟩
      have := h2 j hj
      rwa [add_plain', add_plain'] at this
theorem fld_int {P : Program} {k : IntKind} {t : TypeId} {n : Nat} {v : Value} {y : DataW H × List MemPlace} (ht : P.underlying t = some (.int k)) (h : DataW.trod enc P w 0 (fun _ => true) true n t [v] = some y) :
    ∃ x, v = .int k x ∧ (Lit.int k x).wf = true := by
  obtain ⟨x, h1, h2, h3⟩ := DataW.trod_int ht h
  simp only [List.cons.injEq, and_true] at h1
  exact ⟨x, h1, h3⟩
theorem fld_str {P : Program} {t : TypeId} {n : Nat} {v : Value} {y : DataW H × List MemPlace} (ht : P.underlying t = some .string) (h : DataW.trod enc P w 0 (fun _ => true) true n t [v] = some y) :
    ∃ x, v = .string x := by
  obtain ⟨x, h1, h2, h3⟩ := DataW.trod_string ht h
  simp only [List.cons.injEq, and_true] at h1
  exact ⟨x, h1⟩
theorem fld {P : Program} {fs : Array Field} {cs : List Value} {xs : List (DataW H × List MemPlace)} {n : Nat}
    (hf : ∀ (i : Nat) (f : Field), fs[i]? = some f → DataW.trod enc P w 0 (fun _ => true) true n f.type ((cs.drop f.offset).take (P.cellsOf f.type)) = xs[i]?)
    (i : Nat) (f : Field) (hi : fs[i]? = some f) (l : List Value) (hl : (cs.drop f.offset).take (P.cellsOf f.type) = l) (T : TypeId) (hT : f.type = T) (y : DataW H × List MemPlace) (hy : xs[i]? = some y) :
    DataW.trod enc P w 0 (fun _ => true) true n T l = some y := by
  have h := hf i f hi
  rw [hl, hT, hy] at h
  exact h
/-- a place of each -/
theorem pick_all {α : Type} [Inhabited α] {n : Nat} {R : Nat → α → Prop} (h : ∀ i, i < n → ∃ x, R i x) : ∃ l : List α, l.length = n ∧ ∀ i, i < n → R i (l.getD i default) := by
  refine ⟨(List.range n).map fun i => if q : i < n then Classical.choose (h i q) else default, by simp, fun i hi => ?_⟩
  have : ((List.range n).map fun i => if q : i < n then Classical.choose (h i q) else default).getD i default = Classical.choose (h i hi) := by
    simp [List.getD, hi]
  rw [this]
  exact Classical.choose_spec (h i hi)
theorem bytes_open {n : Nat} {v : Value} {y : DataW H × List MemPlace} (h : DataW.trod enc Tryz.prog w 0 (fun _ => true) true n 27 [v] = some y) :
    ∃ (co : Option Addr) (cc : Nat) (con : List UInt8), v = .slice co con.length cc ∧ By w co con ∧ (con.length = 0 ∨ ∃ el sp, y.1 = .slice el sp ∧ el.length = con.length) := by
  obtain ⟨a, b, off, k, cap, elems, rfl, ha, hw, hE⟩ := rows_open (c := 1) Tryz.underlying27 (by kernel_rfl) (by decide) h
  obtain ⟨l, hl, hR⟩ := pick_all (α := UInt8) (n := elems.length) (R := fun i x => w.cell? ⟨b, off + i, none⟩ = some (.int .u8 (x.toNat : Int))) (fun i hi => by
    obtain ⟨cs, h1, h2, h3⟩ := hE i hi
    match cs, h1 with
    | [c], _ =>
      obtain ⟨x, rfl, hx⟩ := fld_int Tryz.underlying5 h3
      have := h2 0 (by decide)
      have hx2 := wf_u8.1 hx
      refine ⟨UInt8.ofNat x.toNat, ?_⟩
      rw [Nat.mul_one] at this
      rw [show ((UInt8.ofNat x.toNat).toNat : Int) = x by
        have : x.toNat < 256 := by omega
        simp only [UInt8.toNat_ofNat']
        rw [Nat.mod_eq_of_lt this]
        omega]
      exact this)
  refine ⟨a, cap, l, by rw [hl], ⟨b, off, by rw [hl]; exact ha, fun i hi => hR i (by omega)⟩, ?_⟩
  rcases hw with hw | ⟨sp, hw⟩
  · exact .inl (by omega)
  · exact .inr ⟨_, sp, hw, by simp [hl]⟩
theorem vars_open {n : Nat} {v : Value} {y : DataW H × List MemPlace} (h : DataW.trod enc Tryz.prog w 0 (fun _ => true) true n 43 [v] = some y) :
    ∃ (vo : Option Addr) (vc : Nat) (l : NW), v = .slice vo l.length vc ∧ Vr w vo l ∧ (l.length = 0 ∨ ∃ el sp, y.1 = .slice el sp ∧ el.length = l.length) := by
  obtain ⟨a, b, off, k, cap, elems, rfl, ha, hw, hE⟩ := rows_open (c := 2) Tryz.underlying43 (by kernel_rfl) (by decide) h
  obtain ⟨l, hl, hR⟩ := pick_all (α := ByteArray × Int) (n := elems.length) (R := fun i x => w.cell? ⟨b, off + i * 2, none⟩ = some (.string x.1) ∧ w.cell? ⟨b, off + i * 2 + 1, none⟩ = some (.int .u32 x.2) ∧ 0 ≤ x.2 ∧ x.2 ≤ 4294967295) (fun i hi => by
    obtain ⟨cs, h1, h2, h3⟩ := hE i hi
    obtain ⟨xs, m, hm, hx, _, hxs, hf⟩ := DataW.trod_struct Tryz.underlying77 h3
    match cs, h1 with
    | [c0, c1], _ =>
      match xs, hxs with
      | [x0, x1], _ =>
        obtain ⟨s, rfl⟩ := fld_str Tryz.underlying9 (fld hf 0 _ rfl [c0] (by kernel_rfl) 9 rfl x0 rfl)
        obtain ⟨z, rfl, hz⟩ := fld_int Tryz.underlying23 (fld hf 1 _ rfl [c1] (by kernel_rfl) 23 rfl x1 rfl)
        exact ⟨(s, z), h2 0 (by decide), h2 1 (by decide), wf_u32.1 hz⟩)
  have hg : ∀ i, i < l.length → l.getD i (⟨#[]⟩, 0) = l.getD i default := fun i hi => by simp [List.getD, List.getElem?_eq_getElem hi]
  refine ⟨a, cap, l, by rw [hl], ⟨⟨b, off, by rw [hl]; exact ha, fun i hi => ?_⟩, fun i hi => ?_⟩, ?_⟩
  · have := hR i (by omega)
    unfold nmA wdA
    rw [hg i hi]
    exact ⟨this.1, this.2.1⟩
  · have := hR i (by omega)
    unfold wdA
    rw [hg i hi]
    exact this.2.2
  · rcases hw with hw | ⟨sp, hw⟩
    · exact .inl (by omega)
    · exact .inr ⟨_, sp, hw, by simp [hl]⟩
theorem state_open {base : Nat} {v : Value} {d : DataW H} {p : List MemPlace} (hval : Value.okWide Tryz.prog w .any base 45 v) (h : DataW.Trod enc Tryz.prog w 0 (fun _ => true) true 45 v d p) :
    ∃ (co vo : Option Addr) (cc vc : Nat) (con : List UInt8) (l : NW) (sd ck : Int), v = .agg #[.slice co con.length cc, .slice vo l.length vc, .int .u64 sd, .int .u32 ck] ∧ By w co con ∧ Vr w vo l ∧
      (0 ≤ sd ∧ sd < 18446744073709551616) ∧ (0 ≤ ck ∧ ck < 4294967296) ∧ ((DataW.weights Tryz.prog 45 d).all (· ≤ reachBytes) = true → con.length < 140737488355328 ∧ l.length * 24 ≤ 140737488355328) := by
  simp only [Value.okWide, Tryz.underlying45] at hval
  obtain ⟨cs, rfl, hsz, -⟩ := hval
  obtain ⟨fuel, h⟩ := h
  obtain ⟨xs, m, hm, hx, hl, hxs, hf⟩ := DataW.trod_struct Tryz.underlying45 h
  have hc3 : cs.size = 4 := hsz.trans (by kernel_rfl)
  obtain ⟨cl⟩ := cs
  have hl3 : cl.length = 4 := hc3
  simp only [Value.cells] at hf
  match cl, hl3 with
  | [c0, c1, c2, c3], _ =>
    match xs, hxs with
    | [x0, x1, x2, x3], _ =>
      obtain ⟨co, cc, con, rfl, hY, hw0⟩ := bytes_open (fld hf 0 _ rfl [c0] (by kernel_rfl) 27 rfl x0 rfl)
      obtain ⟨vo, vc, l, rfl, hV, hw1⟩ := vars_open (fld hf 1 _ rfl [c1] (by kernel_rfl) 43 rfl x1 rfl)
      obtain ⟨sd, rfl, s2⟩ := fld_int Tryz.underlying22 (fld hf 2 _ rfl [c2] (by kernel_rfl) 22 rfl x2 rfl)
      obtain ⟨ck, rfl, s3⟩ := fld_int Tryz.underlying23 (fld hf 3 _ rfl [c3] (by kernel_rfl) 23 rfl x3 rfl)
      have i2 := wf_u64.1 s2
      have i3 := wf_u32.1 s3
      refine ⟨co, vo, cc, vc, con, l, sd, ck, rfl, hY, hV, by omega, by omega, fun hall => ?_⟩
      simp only [Prod.mk.injEq] at hx
      rw [hx.1] at hall
      simp only [List.map_cons, List.map_nil, DataW.weights, Tryz.underlying45, DataW.weightsEach, List.all_append, Bool.and_eq_true] at hall
      obtain ⟨a0, a1, -⟩ := hall
      have b5 : Tryz.prog.bytesOf 5 = 1 := by kernel_rfl
      have b77 : Tryz.prog.bytesOf 77 = 24 := by kernel_rfl
      constructor
      · rcases hw0 with hw0 | ⟨el, sp, e1, e2⟩
        · omega
        · rw [e1] at a0
          simp only [DataW.weights, Tryz.underlying27, b5, List.all_cons, Bool.and_eq_true, reachBytes] at a0
          have := of_decide_eq_true a0.1
          omega
      · rcases hw1 with hw1 | ⟨el, sp, e1, e2⟩
        · omega
        · rw [e1] at a1
          simp only [DataW.weights, Tryz.underlying43, b77, List.all_cons, Bool.and_eq_true, reachBytes] at a1
          have := of_decide_eq_true a1.1
          omega
end

end Go.Proofs.YtmjholcpajfldaaGreatDoor
