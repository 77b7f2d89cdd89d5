/- Walks: a clone of bytes, a memory of bytes, a number shown. No condition. -/
import Derived.Test.YtmjholcpajfldaaGreatDoorHostE
import Derived.Test.YtmjholcpajfldaaGreatDoorShelf
namespace Go.Proofs.YtmjholcpajfldaaGreatDoor
open Go.RowKit
set_option linter.unusedVariables false
set_option linter.unusedSimpArgs false

set_option maxRecDepth 100000
theorem wpList_append_all {P : Program} {w : World} {ops : Array Oper} {rest : List Oper} {o : Oper} {a : Act} {Q : Exit → Act → World → Prop} (hgd : o.guard = none) (s x : Operand) (t : TypeId)
    (ho : o.op = .call { callee := .builtin .append, args := #[s, x], argTypes := #[t, t] })
    (base : Nat) (e : TypeId) (z : Value) (size bytes m : Nat) (ht : P.underlying t = some (.slice e)) (hinfo : (P.info? e).map (fun i => (i.zero, i.size, i.bytes)) = some (some z, size, bytes))
    (hzs : z.cells.size = size) (hsz : 0 < size) (v : Value) (n : Nat) (xs : List Value) (hown : w.ownsRow base e size v n xs)
    (ad : Addr) (c : Nat) (news : List Value) (hl : news.length = m * size) (hnews : ∀ j u, news[j]? = some u → w.cell? (ad.add j) = some u) (h1 : ∀ u ∈ news, u.oneCell' = true)
    (h63 : n + m ≤ maxLen) (hbytes : (n + m) * bytes ≤ 140737488355328) (hbase : base ≤ w.heap.size)
    (hs : a.eval s = v) (hx : a.eval x = .slice (some ad) m c)
    (h : ∀ v' w', Appended w w' base e size v v' n m xs news → wpList P ops Q rest (a.put o.dst v') w') :
    wpList P ops Q (o :: rest) a w := by
  obtain ⟨i, hi, hz0, hz1, hz2⟩ := info_parts hinfo
  subst hz1
  subst hz2
  refine wpList_plain hgd fun K hK => ?_
  obtain ⟨v', w', hr, hA⟩ := append_strong (P := P) w base t o.type e i z ht hi hz0 hzs hsz v n xs hown ad m c news hl hnews h1 h63 hbytes hbase
  unfold Oper.wp execOp
  simp only [ho, resolve, invoke, builtin, Sem.run_bind, Sem.run_pure, Result.andThen_ok, List.map_toArray, List.map_cons, List.map_nil, hs, hx, hr]
  exact hK _ _ (h v' w' hA)
theorem ownsRow_empty (w : World) (e : TypeId) (size : Nat) : (w.alloc (.cells #[] e)).ownsRow w.heap.size e size (.slice (some ⟨w.heap.size, 0, none⟩) 0 0) 0 [] :=
  ⟨by simp, .inr ⟨w.heap.size, 0, #[], rfl, Nat.le_refl _, heap_alloc_new w _, Nat.le_refl _, by decide, by simp, by simp⟩⟩
theorem below_of_own {w w2 w3 : World} {e : TypeId} {n k m : Nat} {v v' : Value} {xs news : List Value} (hA : Appended w2 w3 w.heap.size e n v v' k m xs news) (h : w2.ownsRow w.heap.size e n v k xs) (hs : w.heap.size ≤ w2.heap.size) : Below w.heap.size w2 w3 :=
  (Below.refl w.heap.size w2).grown hA.grown hs (fun q hq => (h.lt q hq).1)
set_option maxHeartbeats 2000000 in
theorem clone35 (ad : Addr) (m c : Nat) (news : List Value) (w : World) (hl : news.length = m * 1) (hn : Hid (∀ j u, news[j]? = some u → w.cell? (ad.add j) = some u)) (h1 : Hid (∀ u ∈ news, u.oneCell' = true)) (hm : m ≤ 140737488355328) :
    Calls Tryz.prog 35 #[.slice (some ad) m c] w fun e w' => ∃ v', e = .returned v' ∧ w'.ownsRow w.heap.size 5 1 v' m news ∧ Below w.heap.size w w' := by
  have qT : ∀ (w : World) (a : Option Addr) (n c n' c' : Nat), (binOp .eql 27 (.slice a n c) (.slice none n' c')).run Tryz.prog w = .ok (.bool a.isNone) w := fun w a n c n' c' => Lib.run_eql_slice_nil w _ _ a n c n' c' Tryz.underlying27
  have hrow := hid (ownsRow_empty w 5 1)
  have hB := hid ((Below.refl w.heap.size w).alloc (Nat.le_refl _) (.cells #[] 5))
  have hc : Hid (∀ j u, news[j]? = some u → (w.alloc (.cells #[] 5)).cell? (ad.add j) = some u) := hid (fun j u hj => cell_on (hn.out j u hj) hB.out)
  go_enter Tryz.func35, Tryz.ntmps35
  go_wp2_with (at_builtin; refine wpList_append_all rfl _ _ 27 rfl w.heap.size 5 (.int .u8 0) 1 1 m Tryz.underlying27 (by kernel_rfl) rfl (by decide) _ 0 [] hrow.out ad c news hl hc.out h1.out (by unfold maxLen; omega) (by omega) (by simp) rfl rfl ?_; intro v' w' hA; have hR := hid hA.own; have hB2 := hid (hB.out.trans (below_of_own hA hrow.out (by simp))); clear hA)
  go_ret
  refine ⟨_, rfl, ?_, hB2.out⟩
  have := hR.out
  rwa [Nat.zero_add, List.nil_append] at this
/-- a memory of bytes -/
structure Me (w : World) (q B : Nat) (l : List UInt8) : Prop where
  row : ∃ mv, Bx w q #[mv, .bool false, .slice none 0 0] 89 ∧ w.ownsRow B 5 1 mv l.length (bv l)
  len : l.length = 256
  lo : B ≤ q
theorem Me.below {w w' : World} {q B : Nat} {l : List UInt8} (h : Me w q B l) (hb : Below w.heap.size w w') : Me w' q B l := by
  obtain ⟨mv, h1, h2⟩ := h.row
  exact ⟨⟨mv, h1.below hb, own_mono h2 hb (Nat.le_refl _)⟩, h.len, h.lo⟩
set_option maxHeartbeats 4000000 in
theorem from22 (db : Nat) (l : List UInt8) (hl : l.length = 256) (w : World) (hb : Bx w db (bv l).toArray 5) :
    Calls Tryz.prog 22 #[.slice (some ⟨db, 0, none⟩) 256 256] w fun e w' => ∃ q, e = .returned (.tuple #[.pointer (some ⟨q, 0, none⟩), .int .i64 0]) ∧ Me w' q w.heap.size l ∧ q < w'.heap.size ∧ Below w.heap.size w w' := by
  have c := hid (clone35 ⟨db, 0, none⟩ 256 256 (bv l) w (by simp [bv_len, hl]) (hid fun j u hj => by
    rw [show (⟨db, 0, none⟩ : Addr).add j = ⟨db, j, none⟩ by unfold Addr.add; split <;> simp_all, hb.cell j]
    simpa using hj) (hid (bv_one l)) (by omega))
  have hbt : bits BinOp.and IntKind.i64 256 255 = 0 := by decide
  clear hb
  go_enter Tryz.func22, Tryz.ntmps22
  go_wp2_with fail
  refine c.out.mono ?_
  rintro e w1 ⟨v', rfl, ho, hb1⟩
  obtain ⟨ao, cap, rfl, -⟩ := own_any_shape ho
  have O1 := hid ho
  have B1 := hid hb1
  clear c ho hb1
  go_wp2_with fail
  go_ret2
  refine ⟨_, rfl, ⟨⟨_, Bx.new _ _ _, ?_⟩, hl, B1.out.size⟩, by simp, B1.out.alloc B1.out.size _⟩
  rw [hl]
  exact O1.out.alloc _

end Go.Proofs.YtmjholcpajfldaaGreatDoor
