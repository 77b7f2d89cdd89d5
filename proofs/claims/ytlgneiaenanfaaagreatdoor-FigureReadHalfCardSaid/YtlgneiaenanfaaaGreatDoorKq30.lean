/- Walks and plain laws, merged: FzV. No condition. -/
import Derived.Lib.SmallJoins
import Derived.Lib.LaidPrint
import Derived.Test.YtlgneiaenanfaaaGreatDoorKq29
import Derived.Test.YtlgneiaenanfaaaGreatDoorKq27
import Derived.Test.YtlgneiaenanfaaaGreatDoorKq14
namespace Go.Proofs.YtlgneiaenanfaaaGreatDoor
open Go.RowKit
set_option linter.unusedVariables false
set_option linter.unusedSimpArgs false
set_option maxRecDepth 100000
set_option maxHeartbeats 64000000
section
set_option maxRecDepth 100000
open Go.Lib
theorem laidVars_has {P : Program} {w : World} : ∀ {l : List (String × DataW Unit)} {ps : List MemPlace}, DataW.LaidVars P w l ps → ∀ n d, (n, d) ∈ l → ∃ g t cs fuel p, P.globalNamed n = some g ∧ (P.globals[g]?).map (·.type) = some t ∧ w.var? P n = some cs ∧ DataW.trod (fun _ => ()) P w 0 (fun _ => true) false fuel t cs.toList = some (d, p) ∧ ∀ x ∈ MemPlace.row ⟨g, 0, none⟩ cs.size, x ∈ ps
 | [], _, _, n, d, hm => by cases hm
 | (m, e) :: l, ps, h, n, d, hm => by
  obtain ⟨g', t', cs', fuel', p, q, h1, h2, h3, h4, h5, h6⟩ := h
  rcases List.mem_cons.1 hm with he | hm
  ·cases he
   exact ⟨g', t', cs', fuel', p, h1, h2, h3, h4, fun x hx => by rw [h6]; simp [hx]⟩
  ·obtain ⟨g, t, cs, fuel, p2, a1, a2, a3, a4, a5⟩ := laidVars_has h5 n d hm
   exact ⟨g, t, cs, fuel, p2, a1, a2, a3, a4, fun x hx => by rw [h6]; simp [a5 x hx]⟩
theorem laid_block {P : Program} {w : World} {l : List (String × DataW Unit)} (h : laidMet P l w) {n : String} {d : DataW Unit} (hm : (n, d) ∈ l) {g : Nat} {t : TypeId} (hg : P.globalNamed n = some g) (ht : (P.globals[g]?).map (·.type) = some t) :
  ∃ cs fuel p, DataW.trod (fun _ => ()) P w 0 (fun _ => true) false fuel t cs.toList = some (d, p) ∧ (∀ i, w.cell? ⟨g, i, none⟩ = cs[i]?) ∧ (0 < cs.size → ∃ ty, w.heap[g]? = some (.cells cs ty (0, 0))) := by
 obtain ⟨ps, hv, hnd, h3⟩ := h
 obtain ⟨g', t', cs, fuel, p, a1, a2, a3, a4, a5⟩ := laidVars_has hv n d hm
 obtain rfl := Option.some.inj (hg.symm.trans a1)
 obtain rfl := Option.some.inj (ht.symm.trans a2)
 refine ⟨cs, fuel, p, a4, fun i => World.var?_cell hg a3 i, fun hp => ?_⟩
 have hm0 : MemPlace.cell g 0 ∈ ps := a5 _ (by
  unfold MemPlace.row
  exact List.mem_map.2 ⟨0, List.mem_range.2 hp, rfl⟩)
 obtain ⟨⟨c, ty, hc⟩, _⟩ := h3 g 0 hm0
 unfold World.var? at a3
 rw [hg] at a3
 simp only [Option.bind_some, hc, Option.some.injEq] at a3
 subst a3
 exact ⟨ty, hc⟩
theorem trod_floatW {P : Program} {w : World} {fuel : Nat} {t : TypeId} {cs : List Value} {x : DataW Unit × List MemPlace} {k : FloatKind} (ht : P.underlying t = some (.float k)) (h : DataW.trod (fun _ => ()) P w 0 (fun _ => true) false fuel t cs = some x) : ∃ b, cs = [.float k b] ∧ x = (.lit (.float k b), []) := by
 cases fuel with
 | zero => simp [DataW.trod] at h
 | succ n =>
  unfold DataW.trod at h
  rw [ht] at h
  split at h <;> simp_all
theorem trod_ifaceW {P : Program} {w : World} {fuel : Nat} {t : TypeId} {cs : List Value} {name : String} {d : DataW Unit} {p : List MemPlace} (ht : (match P.underlying t with | some (.interface _) => true | _ => false) = true) (h : DataW.trod (fun _ => ()) P w 0 (fun _ => true) false fuel t cs = some (.iface name d, p)) : ∃ u v, cs = [.iface u v] := by
 cases hu : P.underlying t with
 | none => rw [hu] at ht; cases ht
 | some T =>
  rw [hu] at ht
  cases T <;> simp at ht
  cases fuel with
  | zero => simp [DataW.trod] at h
  | succ n =>
   unfold DataW.trod at h
   rw [hu] at h
   split at h <;> simp_all
noncomputable def FS (t : TypeId) : Array Field := match Tryz.prog.underlying t with | some (.struct fs) => fs | _ => #[]
theorem at_one {cs : List Value} {k : Nat} {v : Value} (h : (cs.drop k).take 1 = [v]) : cs[k]? = some v := by
 have := congrArg (·[0]?) h
 simpa [List.getElem?_take, List.getElem?_drop] using this
theorem struct_at {w : World} {fuel : Nat} {T : TypeId} {cs : List Value} {ds : List (DataW Unit)} {p : List MemPlace} (hT : Tryz.prog.underlying T = some (.struct (FS T))) (h : DataW.trod (fun _ => ()) Tryz.prog w 0 (fun _ => true) false fuel T cs = some (.agg ds, p)) :
  cs.length = Tryz.prog.cellsOf T ∧ ∀ (i : Nat) (t : TypeId) (o : Nat), ((FS T)[i]?).map (fun f => (f.type, f.offset)) = some (t, o) → Tryz.prog.cellsOf t = 1 → ∃ f d q, ds[i]? = some d ∧ DataW.trod (fun _ => ()) Tryz.prog w 0 (fun _ => true) false f t ((cs.drop o).take 1) = some (d, q) := by
 obtain ⟨xs, n, rfl, hx, hl, hxl, hall⟩ := DataW.trod_struct hT h
 refine ⟨hl, fun i t o hf hc => ?_⟩
 obtain ⟨f, hf1, hf2⟩ := Option.map_eq_some_iff.1 hf
 injection hf2 with h1 h2
 have h3 := hall i f hf1
 rw [h1, h2, hc] at h3
 have hi : i < xs.length := by
  rw [hxl]
  exact (Array.getElem?_eq_some_iff.1 hf1).1
 rw [List.getElem?_eq_getElem hi] at h3
 have hd : ds = xs.map (·.1) := by
  have := congrArg Prod.fst hx
  simpa using this
 refine ⟨n, (xs[i]).1, (xs[i]).2, ?_, h3⟩
 rw [hd, List.getElem?_map, List.getElem?_eq_getElem hi]
 rfl
theorem slice_at {w : World} {fuel : Nat} {t e : TypeId} {cs : List Value} {ds : List (DataW Unit)} {p : List MemPlace} (ht : Tryz.prog.underlying t = some (.slice e)) (h : DataW.trod (fun _ => ()) Tryz.prog w 0 (fun _ => true) false fuel t cs = some (.slice ds [], p)) :
  ∃ a : Addr, cs = [.slice (some a) ds.length ds.length] ∧ ∀ i d, ds[i]? = some d → ∃ f q ce, DataW.trod (fun _ => ()) Tryz.prog w 0 (fun _ => true) false f e ce = some (d, q) ∧ ∀ j, j < Tryz.prog.cellsOf e → w.cell? ((a.add (i * Tryz.prog.cellsOf e)).add j) = ce[j]? := by
 rcases DataW.trod_slice ht h with ⟨_, hx⟩ | ⟨a, len, cap, el, rs, m, rfl, hcs, hx, _, hlc, _, hel, helem, hsp, _⟩
 ·cases hx
 have e0 := congrArg Prod.fst hx
 simp only [DataW.slice.injEq] at e0
 obtain ⟨eE, eR⟩ := e0
 have hlen : len = ds.length := by rw [eE, List.length_map, hel]
 have hrs : rs.length = 0 := by have := congrArg List.length eR; simpa using this.symm
 have hcap : cap = len := by have := (hsp rfl).1; omega
 refine ⟨a, by rw [hcs, hcap, hlen], fun i d hd => ?_⟩
 have hi : i < len := by
  rw [hlen]
  exact (List.getElem?_eq_some_iff.1 hd).1
 have h1 := helem i hi
 obtain ⟨b, hb⟩ : ∃ b, el[i]? = some b := ⟨el[i]'(by omega), List.getElem?_eq_getElem (by omega)⟩
 rw [hb] at h1
 obtain ⟨ce, hce, hte⟩ := Option.bind_eq_some_iff.1 h1
 have hdb : d = b.1 := by
  rw [eE, List.getElem?_map, hb] at hd
  simpa using hd.symm
 obtain ⟨_, _, hcc⟩ := World.cells?_some hce
 exact ⟨m, b.2, ce, by rw [hdb]; exact hte, hcc⟩
theorem add_off {g o : Nat} (i j : Nat) : (((⟨g, o, none⟩ : Addr).add i).add j) = ⟨g, o + (i + j), none⟩ := by
 unfold Addr.add
 split <;> split <;> simp_all <;> omega
theorem int_field {w : World} {t : TypeId} {k : IntKind} {f : Nat} {cs : List Value} {o : Nat} {d : DataW Unit} {q : List MemPlace} {n : Int} {x : Option (DataW Unit)} (ht : Tryz.prog.underlying t = some (.int k)) (h : DataW.trod (fun _ => ()) Tryz.prog w 0 (fun _ => true) false f t ((cs.drop o).take 1) = some (d, q)) (hd : x = some d) (hx : x = some (.lit (.int k n))) : cs[o]? = some (.int k n) := by
 obtain ⟨m, h1, h2, _⟩ := DataW.trod_int ht h
 rw [hx] at hd
 injection hd with hd
 injection h2 with h3 _
 rw [← hd] at h3
 injection h3 with h3
 injection h3 with h4 h5
 rw [h5]
 exact at_one h1
theorem three {cs : Array Value} {a b c : Value} (hl : cs.toList.length = 3) (h0 : cs.toList[0]? = some a) (h1 : cs.toList[1]? = some b) (h2 : cs.toList[2]? = some c) : cs = #[a, b, c] := by
 obtain ⟨l⟩ := cs
 simp only at hl h0 h1 h2
 match l, hl with
 | [x, y, z], _ =>
  simp at h0 h1 h2
  rw [h0, h1, h2]
theorem info_one {W : World} {name : String} {g : Nat} {a b c : Int} (h : laidMet Tryz.prog laid13 W) (hm : (name, (DataW.agg [.lit (.int .u64 a), .lit (.int .u64 b), .lit (.int .i64 c)] : DataW Unit)) ∈ laid13) (hg : Tryz.prog.globalNamed name = some g) (ht : (Tryz.prog.globals[g]?).map (·.type) = some 232) : Bq W g #[.int .u64 a, .int .u64 b, .int .i64 c] := by
 obtain ⟨cs, fuel, p, hd, hc, hb⟩ := laid_block h hm hg ht
 obtain ⟨hl, hf⟩ := struct_at (T := 232) (by kernel_rfl) hd
 rw [show Tryz.prog.cellsOf 232 = 3 by kernel_rfl] at hl
 obtain ⟨f0, d0, q0, e0, t0⟩ := hf 0 106 0 (by kernel_rfl) (by kernel_rfl)
 obtain ⟨f1, d1, q1, e1, t1⟩ := hf 1 106 1 (by kernel_rfl) (by kernel_rfl)
 obtain ⟨f2, d2, q2, e2, t2⟩ := hf 2 3 2 (by kernel_rfl) (by kernel_rfl)
 have c0 := int_field (k := .u64) (n := a) (by kernel_rfl) t0 e0 rfl
 have c1 := int_field (k := .u64) (n := b) (by kernel_rfl) t1 e1 rfl
 have c2 := int_field (k := .i64) (n := c) (by kernel_rfl) t2 e2 rfl
 have he := three hl c0 c1 c2
 subst he
 obtain ⟨ty, hh⟩ := hb (by simp)
 exact ⟨ty, hh⟩
theorem pow_laid {W : World} (h : laidMet Tryz.prog laid13 W) : Pw W := by
 obtain ⟨cs, fuel, p, hd, hc, hb⟩ := laid_block h (n := "internal/strconv.pow10Tab") (d := Go.Pinned.pow10Tab) (List.mem_of_getElem? (i := 12) rfl) (g := 8) (t := 247) (by kernel_rfl) (by kernel_rfl)
 have key : ∀ (i : Nat) (x : Nat × Nat), Go.Pinned.pow10Rows[i]? = some x → cs.toList[i * 2]? = some (.int .u64 (x.1 : Int)) ∧ cs.toList[i * 2 + 1]? = some (.int .u64 (x.2 : Int)) := by
  intro i x hx
  have hi : i < 696 := by
   have := (List.getElem?_eq_some_iff.1 hx).1
   rw [rows_len] at this
   exact this
  obtain ⟨f, d, q, h1, h2⟩ := array_elem (t := 247) (e := 246) (n := 696) (by kernel_rfl) hd i hi
  rw [List.getElem?_map, hx] at h1
  injection h1 with h1
  rw [← h1, show Tryz.prog.cellsOf 246 = 2 by kernel_rfl] at h2
  obtain ⟨_, hf⟩ := struct_at (T := 246) (by kernel_rfl) h2
  obtain ⟨f0, d0, q0, e0, t0⟩ := hf 0 29 0 (by kernel_rfl) (by kernel_rfl)
  obtain ⟨f1, d1, q1, e1, t1⟩ := hf 1 29 1 (by kernel_rfl) (by kernel_rfl)
  have c0 := int_field (k := .u64) (n := (x.1 : Int)) (by kernel_rfl) t0 e0 rfl
  have c1 := int_field (k := .u64) (n := (x.2 : Int)) (by kernel_rfl) t1 e1 rfl
  rw [List.getElem?_take, if_pos (by decide), List.getElem?_drop] at c0 c1
  exact ⟨c0, c1⟩
 have h0 : ∃ x, Go.Pinned.pow10Rows[0]? = some x := ⟨_, rfl⟩
 obtain ⟨x0, hx0⟩ := h0
 refine ⟨?_, fun i x hx => ⟨by rw [hc, ← Array.getElem?_toList]; exact (key i x hx).1, by rw [hc, ← Array.getElem?_toList]; exact (key i x hx).2⟩⟩
 have h1 := (key 0 x0 hx0).1
 have h2 : W.cell? ⟨8, 0 * 2, none⟩ = some (.int .u64 (x0.1 : Int)) := by rw [hc, ← Array.getElem?_toList]; exact h1
 exact World.block_lt_of_cell? W _ h2
theorem opt_laid {W : World} (h : laidMet Tryz.prog laid13 W) : W.cell? ⟨1, 0, none⟩ = some (.bool true) := by
 obtain ⟨cs, fuel, p, hd, hc, hb⟩ := laid_block h (n := "internal/strconv.optimize") (d := .lit (.bool true)) (List.mem_of_getElem? (i := 4) rfl) (g := 1) (t := 4) (by kernel_rfl) (by kernel_rfl)
 obtain ⟨b, h1, h2⟩ := DataW.trod_bool (by kernel_rfl) hd
 injection h2 with h3 _
 injection h3 with h3
 injection h3 with h3
 rw [hc, ← Array.getElem?_toList, h1, h3]
 rfl
theorem spot_none {W : World} {a : Addr} {v : Value} (h : W.cell? (a.add 0) = some v) : ∃ g o, a = ⟨g, o, none⟩ := by
 obtain ⟨g, o, s⟩ := a
 have e : (Addr.add ⟨g, o, s⟩ 0) = ⟨g, o, s⟩ := by simp [Addr.add]
 rw [e] at h
 obtain rfl : s = none := _root_.Go.Proofs.cell_spot h
 exact ⟨g, o, rfl⟩
theorem row_laid {W : World} {name : String} {g t e n : Nat} {l : List Value} {f : Value → DataW Unit} (h : laidMet Tryz.prog laid13 W) (hm : (name, (DataW.slice (l.map f) [] : DataW Unit)) ∈ laid13) (hg : Tryz.prog.globalNamed name = some g) (ht : (Tryz.prog.globals[g]?).map (·.type) = some t) (hu : Tryz.prog.underlying t = some (.slice e)) (hc1 : Tryz.prog.cellsOf e = 1) (hn : l.length = n) (h0 : 0 < n)
  (hinv : ∀ fuel ce v q, v ∈ l → DataW.trod (fun _ => ()) Tryz.prog W 0 (fun _ => true) false fuel e ce = some (f v, q) → ce = [v]) : ∃ b og, W.cell? ⟨g, 0, none⟩ = some (.slice (some ⟨b, og, none⟩) n n) ∧ b < W.heap.size ∧ ∀ i v, l[i]? = some v → W.cell? ⟨b, og + i, none⟩ = some v := by
 obtain ⟨cs, fuel, p, hd, hc, hb⟩ := laid_block h hm hg ht
 obtain ⟨a, h1, h2⟩ := slice_at hu hd
 have hall : ∀ i v, l[i]? = some v → W.cell? ((a.add (i * 1)).add 0) = some v := by
  intro i v hv
  obtain ⟨f', q, ce, h3, h4⟩ := h2 i (f v) (by rw [List.getElem?_map, hv]; rfl)
  have h5 := hinv _ _ _ _ (List.mem_of_getElem? hv) h3
  rw [hc1] at h4
  rw [h4 0 (by decide), h5]
  rfl
 obtain ⟨v0, hv0⟩ : ∃ v, l[0]? = some v := ⟨l[0]'(by omega), List.getElem?_eq_getElem (by omega)⟩
 have h00 := hall 0 v0 hv0
 rw [Nat.zero_mul] at h00
 have e0 : (a.add 0).add 0 = a.add 0 := by simp [Addr.add]
 rw [e0] at h00
 obtain ⟨b, o, rfl⟩ := spot_none h00
 refine ⟨b, o, ?_, ?_, fun i v hv => ?_⟩
 ·rw [hc, ← Array.getElem?_toList, h1, List.length_map, hn]
  rfl
 ·have := World.block_lt_of_cell? W _ h00
  simpa [Addr.add] using this
 ·have := hall i v hv
  rw [add_off, Nat.mul_one, Nat.add_zero] at this
  exact this
def litOf : Value → DataW Unit
 | .int k n => .lit (.int k n)
 | .float k b => .lit (.float k b)
 | _ => .nil
theorem int_inv {W : World} {t : TypeId} {k : IntKind} {l : List Int} (ht : Tryz.prog.underlying t = some (.int k)) : ∀ fuel ce v q, v ∈ l.map (Value.int k) → DataW.trod (fun _ => ()) Tryz.prog W 0 (fun _ => true) false fuel t ce = some (litOf v, q) → ce = [v] := by
 intro fuel ce v q hv h
 obtain ⟨n, _, rfl⟩ := List.mem_map.1 hv
 obtain ⟨m, h1, h2, _⟩ := DataW.trod_int ht h
 injection h2 with h3 _
 injection h3 with h3
 injection h3 with _ h4
 rw [h1, h4]
theorem float_inv {W : World} {t : TypeId} {k : FloatKind} {l : List Nat} (ht : Tryz.prog.underlying t = some (.float k)) : ∀ fuel ce v q, v ∈ l.map (Value.float k) → DataW.trod (fun _ => ()) Tryz.prog W 0 (fun _ => true) false fuel t ce = some (litOf v, q) → ce = [v] := by
 intro fuel ce v q hv h
 obtain ⟨n, _, rfl⟩ := List.mem_map.1 hv
 obtain ⟨m, h1, h2⟩ := trod_floatW ht h
 injection h2 with h3 _
 injection h3 with h3
 injection h3 with _ h4
 rw [h1, h4]
def cheatOk (k D : Nat) (bs : List UInt8) : Bool :=
 decide (1 ≤ D) && decide (D ≤ 19) && decide (10 ^ (D - 1) ≤ 2 ^ k) && decide (2 ^ k < 10 ^ D) && decide (D + (bs.map fun b => b.toNat - 48).length = k + 1) && decide (dnum (bs.map fun b => b.toNat - 48) = 5 ^ k) && bs.all (fun b => decide (48 ≤ b.toNat) && decide (b.toNat ≤ 57)) && (match (bs.map fun b => b.toNat - 48).getLast? with | some d => d != 0 | none => true)
theorem cheat_all : (List.range 60).all (fun i => match Go.Pinned.cheatRows[i + 1]? with | some x => cheatOk (i + 1) x.1 x.2 | none => false) = true := by kernel_rfl
theorem cheat_len : Go.Pinned.cheatRows.length = 61 := by kernel_rfl
theorem cheat_at (k : Nat) (h1 : 1 ≤ k) (h2 : k ≤ 60) : ∃ D bs, Go.Pinned.cheatRows[k]? = some (D, bs) ∧ Cheat k D (bs.map fun b => b.toNat - 48) ∧ D ≤ 19 ∧ (∀ b ∈ bs, 48 ≤ b.toNat ∧ b.toNat ≤ 57) := by
 have h := List.all_eq_true.1 cheat_all (k - 1) (List.mem_range.2 (by omega))
 rw [show k - 1 + 1 = k by omega] at h
 cases hx : Go.Pinned.cheatRows[k]? with
 | none => rw [hx] at h; cases h
 | some x =>
  rw [hx] at h
  obtain ⟨D, bs⟩ := x
  simp only [cheatOk, Bool.and_eq_true, decide_eq_true_eq, List.all_eq_true] at h
  obtain ⟨⟨⟨⟨⟨⟨⟨a1, a2⟩, a3⟩, a4⟩, a5⟩, a6⟩, a7⟩, a8⟩ := h
  refine ⟨D, bs, rfl, ⟨a1, a3, a4, a5, a6, fun d hd => ?_, fun d hd => ?_⟩, a2, fun b hb => a7 b hb⟩
  ·obtain ⟨b, hb, rfl⟩ := List.mem_map.1 hd
   have := (a7 b hb).2
   omega
  ·rw [hd] at a8
   simpa using a8
theorem cheats_laid {W : World} (h : laidMet Tryz.prog laid13 W) : ∃ g og, g < W.heap.size ∧ W.cell? ⟨9, 0, none⟩ = some (.slice (some ⟨g, og, none⟩) 61 61) ∧ ∀ k, 1 ≤ k → k ≤ 60 → ∃ (D : Nat) (cs : List Nat) (s : ByteArray), W.cell? ⟨g, og + k * 2, none⟩ = some (.int .i64 D) ∧ W.cell? ⟨g, og + k * 2 + 1, none⟩ = some (.string s) ∧ Cheat k D cs ∧ TxD s cs ∧ D ≤ 19 := by
 obtain ⟨cs, fuel, p, hd, hc, hb⟩ := laid_block h (n := "internal/strconv.leftcheats") (d := Go.Pinned.leftcheats) (List.mem_of_getElem? (i := 11) rfl) (g := 9) (t := 251) (by kernel_rfl) (by kernel_rfl)
 obtain ⟨a, h1, h2⟩ := slice_at (t := 251) (e := 250) (by kernel_rfl) hd
 have hall : ∀ (i : Nat) (x : Nat × List UInt8), Go.Pinned.cheatRows[i]? = some x → ∃ s : ByteArray, s.data.toList = x.2 ∧ W.cell? ((a.add (i * 2)).add 0) = some (.int .i64 (x.1 : Int)) ∧ W.cell? ((a.add (i * 2)).add 1) = some (.string s) := by
  intro i x hx
  obtain ⟨f, q, ce, h3, h4⟩ := h2 i _ (by rw [List.getElem?_map, hx]; rfl)
  rw [show Tryz.prog.cellsOf 250 = 2 by kernel_rfl] at h4
  obtain ⟨_, hf⟩ := struct_at (T := 250) (by kernel_rfl) h3
  obtain ⟨f0, d0, q0, e0, t0⟩ := hf 0 3 0 (by kernel_rfl) (by kernel_rfl)
  obtain ⟨f1, d1, q1, e1, t1⟩ := hf 1 9 1 (by kernel_rfl) (by kernel_rfl)
  have c0 := int_field (k := .i64) (n := (x.1 : Int)) (by kernel_rfl) t0 e0 rfl
  obtain ⟨s, s1, s2, _⟩ := DataW.trod_string (by kernel_rfl) t1
  injection s2 with s3 _
  have e1' : (DataW.lit (.string x.2) : DataW Unit) = d1 := by injection e1
  rw [← e1'] at s3
  injection s3 with s3
  injection s3 with s3
  exact ⟨s, s3.symm, by rw [h4 0 (by decide)]; exact c0, by rw [h4 1 (by decide)]; exact at_one s1⟩
 obtain ⟨x0, hx0⟩ : ∃ x, Go.Pinned.cheatRows[0]? = some x := ⟨_, rfl⟩
 obtain ⟨s1, _, g1, _⟩ := hall 0 x0 hx0
 have e0 : (a.add (0 * 2)).add 0 = a.add 0 := by simp [Addr.add]
 rw [e0] at g1
 obtain ⟨b, o, rfl⟩ := spot_none g1
 refine ⟨b, o, ?_, ?_, fun k hk1 hk2 => ?_⟩
 ·have := World.block_lt_of_cell? W _ g1
  simpa [Addr.add] using this
 ·rw [hc, ← Array.getElem?_toList, h1, List.length_map, cheat_len]
  rfl
 ·obtain ⟨D, bs, r, hch, hD, h48⟩ := cheat_at k hk1 hk2
  obtain ⟨sx, e1, e2, e3⟩ := hall k _ r
  replace e1 : sx.data.toList = bs := e1
  rw [add_off] at e2 e3
  refine ⟨D, _, sx, e2, e3, hch, ⟨by rw [List.length_map, ← e1]; simp, fun i hi hi2 => ?_⟩, hD⟩
  have hb : sx[i] ∈ bs := by rw [← e1]; exact List.getElem_mem (by simpa using hi)
  have h9 := h48 _ hb
  rw [List.getElem_map]
  have e4 : bs[i]'(by rw [List.length_map] at hi2; exact hi2) = sx[i] := by
   simp only [← e1]
   rfl
  rw [e4]
  omega
theorem te_laid {W : World} (h : laidMet Tryz.prog laid13 W) : Te W := by
 obtain ⟨b1, o1, p1, p2, p3⟩ := row_laid (g := 13) (t := 256) (e := 3) (n := 9) (l := (ptab.map fun (x : Nat) => (x : Int)).map (Value.int .i64)) (f := litOf) h (List.mem_of_getElem? (i := 5) rfl) (by kernel_rfl) (by kernel_rfl) (by kernel_rfl) (by kernel_rfl) rfl (by decide) (int_inv (by kernel_rfl))
 obtain ⟨b2, o2, q1, q2, q3⟩ := row_laid (g := 14) (t := 257) (e := 22) (n := 23) (l := pw64.map (Value.float .f64)) (f := litOf) h (List.mem_of_getElem? (i := 6) rfl) (by kernel_rfl) (by kernel_rfl) (by kernel_rfl) (by kernel_rfl) rfl (by decide) (float_inv (by kernel_rfl))
 obtain ⟨b3, o3, r1, r2, r3⟩ := row_laid (g := 12) (t := 254) (e := 61) (n := 11) (l := pw32.map (Value.float .f32)) (f := litOf) h (List.mem_of_getElem? (i := 7) rfl) (by kernel_rfl) (by kernel_rfl) (by kernel_rfl) (by kernel_rfl) rfl (by decide) (float_inv (by kernel_rfl))
 have i7 := info_one (g := 7) (a := 52) (b := 11) (c := -1023) h (name := "internal/strconv.float64info") (List.mem_of_getElem? (i := 3) rfl) (by kernel_rfl) (by kernel_rfl)
 have i6 := info_one (g := 6) (a := 23) (b := 8) (c := -127) h (name := "internal/strconv.float32info") (List.mem_of_getElem? (i := 2) rfl) (by kernel_rfl) (by kernel_rfl)
 have h14 := World.block_lt_of_cell? W _ q1
 refine ⟨⟨opt_laid h, pow_laid h, ⟨b2, o2, q1, fun i y hy => q3 i _ (by rw [List.getElem?_map, hy]; rfl), by rw [i7.cell]; rfl⟩, ⟨b3, o3, r1, fun i y hy => r3 i _ (by rw [List.getElem?_map, hy]; rfl)⟩, ⟨h14, ⟨i7, i6⟩, cheats_laid h, ⟨b1, o1, p2, p1, fun i v hv => p3 i _ (by rw [List.getElem?_map, List.getElem?_map, hv]; rfl)⟩⟩⟩, ?_⟩
 obtain ⟨cs, fuel, p, hd, hc, hb⟩ := laid_block h (n := "strconv.ErrRange") (d := Rows.laid_strconv_ErrRange) (List.mem_of_getElem? (i := 9) rfl) (g := 4) (t := 85) (by kernel_rfl) (by kernel_rfl)
 obtain ⟨u, v, e⟩ := trod_ifaceW (by kernel_rfl) hd
 exact ⟨u, v, by rw [hc, ← Array.getElem?_toList, e]; rfl⟩
theorem of_laid {W : World} (h : laidMetH Tryz.prog laid13 W) : Te W := by
 rw [MakeChecks.laidMetH_plain _ _ _ (by kernel_rfl)] at h
 exact te_laid h
end
end Go.Proofs.YtlgneiaenanfaaaGreatDoor
