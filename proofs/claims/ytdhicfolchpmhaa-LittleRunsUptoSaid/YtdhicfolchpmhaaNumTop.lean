/- LittleNumbers: its argument opened. -/
import Derived.Test.YtdhicfolchpmhaaSumsTop
namespace Go.Proofs.Ytdhicfolchpmhaa
open Go.ChangeShapes Go.WideShapes Go.ChangeAt Go.RowKit
set_option linter.unusedVariables false
set_option linter.unusedSimpArgs false

structure NumRow where
  kind : Int
  width : Int
  ao : Option Addr
  cap : Nat
  nums : List Int
  bo : Option Addr
  bcap : Nat
  bytes : List Int
  at_ : Int
  val : Int

/-- the six cells of one op, at a place -/
structure NumRow.Ok (w : World) (blk off : Nat) (r : NumRow) : Prop where
  c0 : w.cell? ⟨blk, off, none⟩ = some (.int .i64 r.kind)
  c1 : w.cell? ⟨blk, off + 1, none⟩ = some (.int .i64 r.width)
  c2 : w.cell? ⟨blk, off + 2, none⟩ = some (.slice r.ao r.nums.length r.cap)
  c3 : w.cell? ⟨blk, off + 3, none⟩ = some (.slice r.bo r.bytes.length r.bcap)
  c4 : w.cell? ⟨blk, off + 4, none⟩ = some (.int .i64 r.at_)
  c5 : w.cell? ⟨blk, off + 5, none⟩ = some (.int .u64 r.val)
  hn : Ints .u64 w r.ao r.nums
  hb : Ints .u8 w r.bo r.bytes
  ln : r.nums.length ≤ 1048576
  lb : r.bytes.length ≤ 1048576
  wk : -9223372036854775808 ≤ r.kind ∧ r.kind ≤ 9223372036854775807
  ww : -9223372036854775808 ≤ r.width ∧ r.width ≤ 9223372036854775807
  wa : -9223372036854775808 ≤ r.at_ ∧ r.at_ ≤ 9223372036854775807
  wv : 0 ≤ r.val ∧ r.val ≤ 18446744073709551615
  hnn : r.ao = none → r.cap = 0

theorem NumRow.Ok.mono {w w' : World} {blk off : Nat} {r : NumRow} (h : r.Ok w blk off) (hb : Below w.heap.size w w') : r.Ok w' blk off :=
  ⟨(hb.cell (World.block_lt_of_cell? w _ h.c0)).trans h.c0, (hb.cell (World.block_lt_of_cell? w _ h.c1)).trans h.c1, (hb.cell (World.block_lt_of_cell? w _ h.c2)).trans h.c2,
    (hb.cell (World.block_lt_of_cell? w _ h.c3)).trans h.c3, (hb.cell (World.block_lt_of_cell? w _ h.c4)).trans h.c4, (hb.cell (World.block_lt_of_cell? w _ h.c5)).trans h.c5,
    h.hn.mono hb, h.hb.mono hb, h.ln, h.lb, h.wk, h.ww, h.wa, h.wv, h.hnn⟩

theorem fld_ints2 {H : Type} {enc : TypeId × Value → H} {P : Program} {w : World} {k : IntKind} {t e : TypeId} {n : Nat} {v : Value} {y : DataW H × List MemPlace} (ht : P.underlying t = some (.slice e)) (he : P.underlying e = some (.int k)) (hc : P.cellsOf e = 1)
    (h : DataW.trod enc P w 0 (fun _ => true) true n t [v] = some y) :
    ∃ (ao : Option Addr) (l rest : List Int) (cap : Nat), v = .slice ao l.length cap ∧ Ints k w ao l ∧ l.length + rest.length = cap ∧ cap ≤ maxLen ∧ ((y.1 = .nil ∧ cap = 0) ∨ y.1 = .slice (lits k l) (lits k rest)) ∧ (ao = none → cap = 0) := by
  rcases DataW.trod_slice ht h with ⟨hcs, hx⟩ | ⟨a, len, cap, elems, rest, m, _, hcs, hx, _, hl, hm, hel, heach, hsp, _⟩
  · simp only [List.cons.injEq, and_true] at hcs
    subst hcs
    exact ⟨none, [], [], 0, rfl, Ints.nil _ _ _, rfl, by simp [maxLen], .inl ⟨by rw [hx], rfl⟩, fun _ => rfl⟩
  · simp only [List.cons.injEq, and_true] at hcs
    subst hcs
    obtain ⟨l, rest, h1, h2, h3, h4, h5⟩ := open_ints_at (d := y.1) (p := y.2) (a := some a) (len := len) (cap := cap) ht he hc ⟨n, h⟩
    subst h1
    exact ⟨some a, l, rest, cap, rfl, h2, h3, h4, h5, fun h => by cases h⟩

theorem bulk_mem {H : Type} {l : List (DataW H)} {d : DataW H} (h : d ∈ l) : Rows.uptoBulk d ≤ Rows.uptoBulkAll l := by
  induction l with
  | nil => cases h
  | cons x r ih =>
    simp only [Rows.uptoBulkAll]
    rcases List.mem_cons.1 h with rfl | h'
    · omega
    · have := ih h'; omega

theorem cells65 : Try.prog.cellsOf 65 = 6 := by kernel_rfl
theorem cells46 : Try.prog.cellsOf 46 = 1 := by kernel_rfl

set_option maxRecDepth 100000 in
theorem numbers_open (w : World) {H : Type} {enc : TypeId × Value → H} {base : Nat} {p : List MemPlace} (v : Value) (d : DataW H) (hval : Value.okWide Try.prog w .any base 62 v) (h : DataW.Trod enc Try.prog w 0 (fun _ => true) true 62 v d p)
    (hw : Rows.uptoBulk d ≤ 1048576) :
    ∃ a len cap, v = .slice a len cap ∧ (len = 0 ∨ ∃ (b off : Nat) (rows : List NumRow), a = some ⟨b, off, none⟩ ∧ rows.length = len ∧ len ≤ 1048576 ∧ ∀ i (h : i < rows.length), (rows[i]).Ok w b (off + i * 6)) := by
  obtain ⟨a, len, cap, rfl⟩ := okWide_slice Try.underlying62 hval
  obtain ⟨b, off, n, elems, rest, hao, hel, hcap, hmax, hd, heach⟩ := open_rows Try.underlying62 cells65 (by decide) h
  refine ⟨a, len, cap, rfl, ?_⟩
  by_cases h0 : len = 0
  · exact .inl h0
  rcases hao with h1 | rfl
  · exact absurd h1 h0
  have hds : d = .slice (elems.map (·.1)) (rest.map (·.1)) := by
    rcases hd with ⟨_, h1⟩ | h1
    · omega
    · exact h1
  subst hds
  have hbe : Rows.uptoBulkAll (elems.map (·.1)) ≤ 1048576 := by
    simp only [Rows.uptoBulk] at hw
    omega
  have hlen : len ≤ 1048576 := by
    have := bulk_length (elems.map (·.1))
    simp only [List.length_map] at this
    omega
  have each : ∀ i, i < len → ∃ r : NumRow, r.Ok w b (off + i * 6) := by
    intro i hi
    obtain ⟨cs, y, hcs, hcell, hy, ht⟩ := heach i hi
    obtain ⟨xs, m, _, hx, hl5, hxs, hf⟩ := DataW.trod_struct Try.underlying65 ht
    match cs, hcs with
    | [c0, c1, c2, c3, c4, c5], _ =>
      obtain ⟨y0, z0, t0⟩ := fld hf hxs 0 _ rfl 1 (by kernel_rfl) [c0] rfl 3 rfl
      obtain ⟨y1, z1, t1⟩ := fld hf hxs 1 _ rfl 1 (by kernel_rfl) [c1] rfl 3 rfl
      obtain ⟨y2, z2, t2⟩ := fld hf hxs 2 _ rfl 1 (by kernel_rfl) [c2] rfl 36 rfl
      obtain ⟨y3, z3, t3⟩ := fld hf hxs 3 _ rfl 1 (by kernel_rfl) [c3] rfl 23 rfl
      obtain ⟨y4, z4, t4⟩ := fld hf hxs 4 _ rfl 1 (by kernel_rfl) [c4] rfl 3 rfl
      obtain ⟨y5, z5, t5⟩ := fld hf hxs 5 _ rfl 1 (by kernel_rfl) [c5] rfl 46 rfl
      obtain ⟨xk, rfl, wk⟩ := fld_int Try.underlying3 t0
      obtain ⟨xw, rfl, ww⟩ := fld_int Try.underlying3 t1
      obtain ⟨ao, l, rst, cp, rfl, hI, hc1, hc2, hd1, hnn⟩ := fld_ints2 Try.underlying36 Try.underlying46 cells46 t2
      obtain ⟨bo, l2, rst2, cp2, rfl, hI2, hc12, hc22, hd2⟩ := fld_ints Try.underlying23 Try.underlying5 cells5 t3
      obtain ⟨xa, rfl, wa⟩ := fld_int Try.underlying3 t4
      obtain ⟨xv, rfl, wv⟩ := fld_int Try.underlying46 t5
      have hyb : Rows.uptoBulk y.1 ≤ 1048576 := by
        have := bulk_mem (show y.1 ∈ elems.map (·.1) from List.mem_map_of_mem (List.mem_of_getElem? hy))
        omega
      have hpart : ∀ z : DataW H × List MemPlace, z ∈ xs → Rows.uptoBulk z.1 ≤ 1048576 := by
        intro z hz
        rw [hx] at hyb
        simp only [Rows.uptoBulk] at hyb
        have := bulk_mem (show z.1 ∈ xs.map (·.1) from List.mem_map_of_mem hz)
        omega
      have hb1 := bulk_ints hc1 hd1
      have hb2 := bulk_ints hc12 hd2
      have hp1 := hpart y2 (List.mem_of_getElem? z2)
      have hp2 := hpart y3 (List.mem_of_getElem? z3)
      exact ⟨⟨xk, xw, ao, cp, l, bo, cp2, l2, xa, xv⟩, by simpa using hcell 0 (by decide), by simpa using hcell 1 (by decide), by simpa using hcell 2 (by decide), by simpa using hcell 3 (by decide), by simpa using hcell 4 (by decide), by simpa using hcell 5 (by decide), hI, hI2, (by show l.length ≤ 1048576; omega), (by show l2.length ≤ 1048576; omega), wf_i64.1 wk, wf_i64.1 ww, wf_i64.1 wa, wf_u64.1 wv, hnn⟩
  obtain ⟨rows, hrl, hrr⟩ := pick_list (fun i (r : NumRow) => r.Ok w b (off + i * 6)) len each
  exact .inr ⟨b, off, rows, rfl, hrl, hlen, hrr⟩
end Go.Proofs.Ytdhicfolchpmhaa
