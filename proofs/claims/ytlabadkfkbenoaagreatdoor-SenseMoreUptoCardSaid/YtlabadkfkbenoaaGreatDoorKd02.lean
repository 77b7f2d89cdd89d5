/- Walks and plain laws, merged: EvlN CalQ AppA CalV. No condition. -/
import Derived.Test.YtlabadkfkbenoaaGreatDoorKd01
namespace Go.Proofs.YtlabadkfkbenoaaGreatDoor
open Go.RowKit
set_option linter.unusedVariables false
set_option linter.unusedSimpArgs false
set_option maxRecDepth 100000
set_option maxHeartbeats 64000000
section
open Go.Shelf
def EndO (o : Out Int) (m : MS) (en v fa : Int) : Prop := (o = .ok v m ∧ en = 1 ∧ fa = 0) ∨ (o = .stop en fa m ∧ v = 0)
structure MoreF (al : Nat) (n : Nat) (m1 m2 : MS) (en1 v1 fa1 en2 v2 fa2 : Int) : Prop where
 e1 : 1 ≤ en1
 e5 : en1 ≤ 5
 steps : m1.steps ≤ al
 reps : m1.reps ≤ n
 evs : m1.reps = m1.evs.length
 lo : m1.steps ≤ m2.steps
 ext : ∃ l, m2.evs = m1.evs ++ l
 s3 : en1 = 3 → m1.steps = al
 s4 : en1 = 4 → m1.reps = n
 same : ¬ (en1 = 3 ∨ en1 = 4) → en2 = en1 ∧ v2 = v1 ∧ fa2 = fa1 ∧ m2 = m1
theorem more_facts {cf cf' : Cf} (hc : cf.More cf') {k d : Nat} {g : Sig} {l : List Int} {m0 m1 m2 : MS} {en1 v1 fa1 en2 v2 fa2 : Int} (h0 : Inv cf (m0.held.map List.length) m0)
  (h1 : EndO ((evl cf k).F d g l m0) m1 en1 v1 fa1) (h2 : EndO ((evl cf' k).F d g l m0) m2 en2 v2 fa2) : MoreF cf.allowed cf.values.length m1 m2 en1 v1 fa1 en2 v2 fa2 := by
 have hr := (evl_more hc k).F d g l m0
 have hk := (evl_keeps cf (m0.held.map List.length) k).F d g l m0 h0
 rcases h1 with ⟨e1, rfl, rfl⟩ | ⟨e1, rfl⟩
 ·rw [e1] at hr hk
  have hi : Inv cf _ m1 := hk
  have hsame : 1 = en2 ∧ v1 = v2 ∧ 0 = fa2 ∧ m1 = m2 := by
   rcases hr with q | q
   ·rcases h2 with ⟨e2, rfl, rfl⟩ | ⟨e2, rfl⟩
    ·rw [q] at e2; cases e2; exact ⟨rfl, rfl, rfl, rfl⟩
    ·rw [q] at e2; cases e2
   ·rcases h2 with ⟨e2, _, _⟩ | ⟨e2, _⟩ <;> (rw [q] at e2; cases e2)
  obtain ⟨rfl, rfl, rfl, rfl⟩ := hsame
  exact ⟨by omega, by omega, hi.steps, hi.reps, hi.evs, Nat.le_refl _, ⟨[], by simp⟩, fun q => by omega, fun q => by omega, fun _ => ⟨rfl, rfl, rfl, rfl⟩⟩
 ·rw [e1] at hr hk
  obtain ⟨hi, hkind⟩ : Inv cf _ m1 ∧ _ := hk
  rw [Rm.stop_def] at hr
  have k1 : 1 ≤ en1 ∧ en1 ≤ 5 ∧ (en1 = 3 → m1.steps = cf.allowed) ∧ (en1 = 4 → m1.reps = cf.values.length) := by
   rcases hkind with ⟨q, _⟩ | ⟨_, ⟨q, q2⟩ | ⟨q, q2⟩ | q⟩
   ·exact ⟨by omega, by omega, fun _ => by omega, fun _ => by omega⟩
   ·exact ⟨by omega, by omega, fun _ => q2, fun _ => by omega⟩
   ·exact ⟨by omega, by omega, fun _ => by omega, fun _ => q2⟩
   ·exact ⟨by omega, by omega, fun _ => by omega, fun _ => by omega⟩
  obtain ⟨a1, a2, a3, a4⟩ := k1
  by_cases h34 : en1 = 3 ∨ en1 = 4
  ·rw [if_pos h34] at hr
   have hle : MS.le m1 m2 := by
    rcases h2 with ⟨e2, _, _⟩ | ⟨e2, _⟩ <;> (rw [e2] at hr; exact hr)
   obtain ⟨l1, l2, l3, l4⟩ := hle
   exact ⟨a1, a2, hi.steps, hi.reps, hi.evs, l1, ⟨l2, l3⟩, a3, a4, fun q => absurd h34 q⟩
  ·rw [if_neg h34] at hr
   have hsame : en1 = en2 ∧ 0 = v2 ∧ fa1 = fa2 ∧ m1 = m2 := by
    rcases hr with q | q
    ·rcases h2 with ⟨e2, rfl, rfl⟩ | ⟨e2, rfl⟩
     ·rw [q] at e2; cases e2
     ·rw [q] at e2; cases e2; exact ⟨rfl, rfl, rfl, rfl⟩
    ·rcases h2 with ⟨e2, _, _⟩ | ⟨e2, _⟩ <;> (rw [q] at e2; cases e2)
   obtain ⟨rfl, rfl, rfl, rfl⟩ := hsame
   exact ⟨a1, a2, hi.steps, hi.reps, hi.evs, Nat.le_refl _, ⟨[], by simp⟩, a3, a4, fun _ => ⟨rfl, rfl, rfl, rfl⟩⟩
end
section
open Go.Shelf
theorem HeldR.low {w : World} {B B' : Nat} {hd : HD} {xs : List Value} {v : Value} (h : HeldR w B hd xs v) (hB : B' ≤ B) : HeldR w B' hd xs v :=
 ⟨h.len, own_low h.row hB, fun i h1 h2 => own_low (h.rows i h1 h2) hB, h.pos, h.nd⟩
theorem clone22 (B : Nat) (u : UT) (vs : VS) (cs : CSg) (pl : List (ByteArray × Int)) (hd : HD) (xs : List Value) (X vb cb pb : Nat) (vg vh vf hv : Value) (w : World) (h : WoR w B u vs cs pl hd xs X vb cb pb vg vh vf hv) (hn : hd.length ≤ 1000) (hw : Hid (∀ a ∈ hd, a.2.length ≤ 4096)) :
  Calls Tryz.prog 22 #[.pointer (some ⟨X, 0, none⟩)] w fun e w' => ∃ X' hv' ys, e = .returned (.pointer (some ⟨X', 0, none⟩)) ∧ Below w.heap.size w w' ∧ WoR w' B u vs cs pl hd ys X' vb cb pb vg vh vf hv' ∧ (∀ b, own52 ys b → w.heap.size ≤ b) ∧ w.heap.size ≤ X' := by
 have H := hid h
 have c := hid (made41_yes X pb w (by simpa using h.box.cell 6))
 obtain ⟨ha, hc, rfl, -⟩ := own_shape2 h.held.row
 clear h
 go_enter Tryz.func22, Tryz.ntmps22
 go_wp2_with fail
 refine c.out.mono ?_
 rintro e w2 ⟨rfl, rfl⟩
 go_wp2_with fail
 have D := hid (Below.refl w2.heap.size w2).drew
 have H3 := hid (H.out.on D.out)
 refine wp_region_held_drew (S := (fun w9 => Bx w9 X #[vg, vh, vf, .map (some vb), .map (some cb), .slice ha hd.length hc, .map (some pb)] 94)) (by kernel_rfl) H3.out.box (fun hHeld => ?_)
 generalize w2.drew = w3 at D H3 hHeld ⊢
 refine tk 0 ?_
 refine tk 1 ?_
 refine tk 2 ?_
 refine tk 3 ?_ (hy := by intro w' hSw; have q0 := hSw.cell 0; simp at q0; have q1 := hSw.cell 1; simp at q1; have q2 := hSw.cell 2; simp at q2; go_simp; (try with_reducible rfl))
 refine tk 4 ?_
 refine tk 5 ?_
 refine tk 6 ?_
 refine tk 7 ?_ (hy := by intro w' hSw; have q3 := hSw.cell 3; simp at q3; have q4 := hSw.cell 4; simp at q4; go_simp; (try with_reducible rfl))
 refine tk 8 ?_
 refine tk 10 ?_
 refine tk 11 ?_
 refine tk 12 ?_
 refine tk 13 ?_ (hy := by intro w' hSw; have q6 := hSw.cell 6; simp at q6; go_simp; (try with_reducible rfl))
 refine tr 9 fun K hK => ?_
 go_simp
 go_at_call 20
 refine (held20 B u vs cs pl hd xs X vb cb pb vg vh vf _ w3 H3.out hn hw).mono ?_
 rintro e w4 ⟨v7, ys, rfl, hb4, hH⟩
 have hk := hHeld.on (grown_of_below hb4) (by simp)
 have H4 := hid (H3.out.on hb4)
 have D4 := hid (D.out.trans (hb4.mono D.out.size))
 have S3 := hid D.out.size
 have HH := hid hH
 obtain ⟨a7, c7, rfl, -⟩ := own_shape2 hH.row
 clear hHeld hb4 hH
 go_wp2_with fail
 refine hK.out _ _ hk (fun hHeld => ?_)
 clear hK K hk
 try simp only [tpa, tpb, tpc, tpd, tpe]
 refine tk 14 ?_
 refine tr 15 fun K hK => ?_
 go_simp
 refine hK.out _ _ (Bx.al hHeld _) (fun hHeld => ?_)
 clear hK K
 try simp only [tpa, tpb, tpc, tpd, tpe]
 refine tk 16 ?_
 refine td ?_
 clear hHeld
 go_wp2_with fail
 go_ret
 have bA : Below w4.heap.size w4 (w4.alloc (.cells #[vg, vh, vf, .map (some vb), .map (some cb), .slice a7 hd.length c7, .map (some pb)] 94)) := by (repeat (first | exact Below.refl _ _ | refine Below.drew ?_ | refine Below.alloc ?_ (by simp <;> omega) _))
 have hA := H4.out.on bA
 have e1 := D.out.size
 have e2 := H.out.lB
 refine ⟨w4.heap.size, _, ys, rfl, D4.out.trans (bA.mono D4.out.size), ⟨Bx.new w4 _ 94, hA.unit, hA.nm, (HH.out.mono bA).low (by omega), hA.place, (Bx.new w4 _ 94).lt, hA.lv, hA.lc, hA.lp, hA.lB⟩, fun b hb => ?_, D4.out.size⟩
 obtain ⟨y, hy, hq⟩ := hb
 obtain ⟨i, hi, rfl⟩ := List.getElem_of_mem hy
 have := own_from (HH.out.rows i hi (by have := HH.out.len; omega)) hq
 omega
end
section
open Go.Shelf
theorem append_none (w : World) (base : Nat) (v : Value) (n c : Nat) (xs : List Value) (hown : w.ownsRow base 52 1 v n xs) (ty : TypeId) : (Builtin.append_ #[27, 27] ty #[v, .slice none 0 c]).run Tryz.prog w = .ok v w := by
 obtain ⟨i, hi, hz0, hz1, hz2⟩ := info_parts (show (Tryz.prog.info? 52).map (fun i => (i.zero, i.size, i.bytes)) = some (some (.int .u32 0), 1, 4) by kernel_rfl)
 rcases hown.2 with ⟨rfl, rfl⟩ | ⟨g, cap, cur, rfl, hbg, hg, hnc, hcm, hcs, htk⟩
 ·simp [Builtin.append_, run_underlying Tryz.underlying27, sizeOf, typeInfo, hi, Builtin.lenOf, Builtin.firstCells, loadCells, loadCellsFrom]
 ·simp [Builtin.append_, run_underlying Tryz.underlying27, sizeOf, typeInfo, hi, Builtin.lenOf, Builtin.firstCells, loadCells, loadCellsFrom, hnc, storeCells, hz1]
theorem wpList_append_words {w : World} {ops : Array Oper} {rest : List Oper} {o : Oper} {a : Act} {Q : Exit → Act → World → Prop} (hgd : o.guard = none) (s x : Operand)
  (ho : o.op = .call { callee := .builtin .append, args := #[s, x], argTypes := #[27, 27] })
  (base : Nat) (v : Value) (n : Nat) (xs : List Value) (hown : w.ownsRow base 52 1 v n xs) (l : List Int) (vx : Value) (hra : RowA w l vx)
  (h63 : n + l.length ≤ 1000000000) (hbase : base ≤ w.heap.size) (hs : a.eval s = v) (hx : a.eval x = vx)
  (h : ∀ v' w', Appended w w' base 52 1 v v' n l.length xs (l.map (Value.int .u32)) → wpList Tryz.prog ops Q rest (a.put o.dst v') w') :
  wpList Tryz.prog ops Q (o :: rest) a w := by
 obtain ⟨aa, ab, ao, ac, rfl, h2, h3⟩ := hra
 cases aa with
 | some ad =>
  refine wpList_append_all hgd s x 27 ho base 52 (.int .u32 0) 1 4 l.length Tryz.underlying27 (by kernel_rfl) rfl (by decide) v n xs hown ad ac (l.map (Value.int .u32)) (by simp) (fun j u hj => ?_) (by simp [Value.oneCell']) (by unfold maxLen; omega) (by omega) hbase hs hx h
  obtain ⟨q1, q2⟩ := List.getElem?_eq_some_iff.1 hj
  have q3 : j < l.length := by simpa using q1
  have e : ad = ⟨ab, ao, none⟩ := by rcases h2 with q | q; (· omega); (· simpa using q)
  subst e
  rw [add_plain0, h3 j q3]
  simp only [List.getElem_map] at q2
  rw [q2]
 | none =>
  have h0 : l.length = 0 := by rcases h2 with q | q; (· exact q); (· cases q)
  have hl : l = [] := List.eq_nil_of_length_eq_zero h0
  subst hl
  refine wpList_plain hgd fun K hK => ?_
  have hr := append_none w base v n ac xs hown o.type
  have hA : Appended w w base 52 1 v v n 0 xs [] := ⟨by simpa using hown, by simpa using hown, grown_refl _ _, .inl rfl, by simp⟩
  unfold Oper.wp execOp
  simp only [ho, resolve, invoke, builtin, Sem.run_bind, Sem.run_pure, Result.andThen_ok, List.map_toArray, List.map_cons, List.map_nil, hs, hx, hr, List.length_nil]
  exact hK _ _ (h v w hA)
end
section
open Go.Shelf
theorem callE_three (cs : CSg) (s : ByteArray) (n : Nat) : callE cs s n = 0 ∨ callE cs s n = 291 ∨ callE cs s n = 293 := by
 unfold callE
 split
 ·exact .inr (.inl rfl)
 ·split
  ·exact .inr (.inl rfl)
  ·split
   ·exact .inl rfl
   ·exact .inr (.inr rfl)
theorem EvR.kpt {w w' : World} {n : Nat} {evs : List Ev} {vas : List Value} {ats : List Nil0} {ve : Value} (h : EvR w n evs vas ats ve) {T : Nat → Prop} (hk : Kpt T w.heap.size w w') (hT : ∀ b, n ≤ b → ¬ T b) : EvR w' n evs vas ats ve :=
 ⟨h.len, h.at_, hk.own h.row fun b hb => ⟨(h.row.lt b hb).2, hT b (own_from h.row hb)⟩, fun i h1 h2 => hk.own (h.args i h1 h2) fun b hb => ⟨((h.args i h1 h2).lt b hb).2, hT b (own_from (h.args i h1 h2) hb)⟩⟩
theorem EvR.below {w w' : World} {n : Nat} {evs : List Ev} {vas : List Value} {ats : List Nil0} {ve : Value} (h : EvR w n evs vas ats ve) (hb : Below w.heap.size w w') : EvR w' n evs vas ats ve :=
 ⟨h.len, h.at_, ownsRow_at h.row hb, fun i h1 h2 => ownsRow_at (h.args i h1 h2) hb⟩
section
variable {w w' : World} {B : Nat} {u : UT} {vs : VS} {cs : CSg} {pl : List (ByteArray × Int)} {hd : HD} {xs : List Value} {X vb cb pb : Nat} {vg vh vf hv : Value}
theorem WoR.other (h : WoR w B u vs cs pl hd xs X vb cb pb vg vh vf hv) {hd2 : HD} {ys : List Value} {X2 : Nat} {hv2 : Value} (h2 : WoR w B u vs cs pl hd2 ys X2 vb cb pb vg vh vf hv2) (hk : Kpt (own52 ys) w.heap.size w w') (hd0 : ∀ b, own52 xs b → ¬ own52 ys b) : WoR w' B u vs cs pl hd xs X vb cb pb vg vh vf hv := by
 have h3 := h.moveT (w' := w') (held := hd.map (·.2)) hk (fun b hb => h2.old hb) (fun ⟨x, hx, hq⟩ => (h2.held.box h.box (by decide) (by decide)).2 x hx hq.symm) (fun b hb => h.rowOut h2.held hb) (by simp) (fun i h1 h2 => by
  rw [held_at]
  have hr := h.held.rows i h1 (by simpa using h2)
  exact hk.own hr fun b hb => ⟨(hr.lt b hb).2, hd0 b ⟨_, List.getElem_mem h1, hb⟩⟩) (fun q hq => by
  obtain ⟨a, ha, rfl⟩ := List.mem_map.1 hq
  obtain ⟨i, hi, rfl⟩ := List.getElem_of_mem ha
  exact h.held.pos i hi)
 rwa [hdOf_same] at h3
end
theorem own_cap {w : World} {base : Nat} {e : TypeId} {size n c : Nat} {a : Option Addr} {xs : List Value} (h : w.ownsRow base e size (.slice a n c) n xs) : n ≤ c := by
 rcases h.2 with ⟨q, h0⟩ | ⟨g, cap, cur, q, _, _, h1, _⟩
 ·omega
 ·cases q
  exact h1
theorem EvR.small {w : World} {n : Nat} {evs : List Ev} {vas : List Value} {ats : List Nil0} {ve : Value} (h : EvR w n evs vas ats ve) : ∀ e ∈ evs, e.args.length ≤ 9223372036854775807 := by
 intro e he
 obtain ⟨i, hi, rfl⟩ := List.getElem_of_mem he
 rcases (h.args i (by have := h.len; omega) hi).2 with ⟨q, h0⟩ | ⟨g, cap, cur, q, _, _, h1, h2, _⟩
 ·omega
 ·unfold maxLen at h2
  omega
theorem ev_take {w : World} {m1 m2 : List Ev} (h : ∃ l, m2 = m1 ++ l) {a : Option Addr} {c : Nat} (he : EvC w m2 (.slice a m2.length c)) : EvC w m1 (.slice a m1.length c) := by
 obtain ⟨l, rfl⟩ := h
 exact he.take
theorem row_valR {w : World} {base k : Nat} {v : Value} {l : List Int} (hr : w.ownsRow base 52 1 v k (l.map (Value.int .u32))) (hk : k = l.length) {T : Nat → Prop} (hT : ∀ b, T b → b < base) : ValR w w.heap.size T l v := by
 subst hk
 rcases hr.2 with ⟨rfl, h0⟩ | ⟨g, cap, cur, rfl, hg, hb, _⟩
 ·exact ⟨none, 0, 0, 0, by rw [h0], .inl h0, .inl h0, fun i hi => by omega⟩
 ·refine ⟨_, g, 0, cap, rfl, .inr rfl, .inr ⟨lt_of_block hb, fun q => by have := hT g q; omega⟩, fun i hi => ?_⟩
  rw [Nat.zero_add, hr.cellAt i (by omega)]
  simp [hi]
theorem more5 (u : UT) (v : Value) (nm : ByteArray) (args values later : List Int) (va0 vv0 vl0 : Value) (st mo : Int) (w : World) (ok : u.Ok) (wf : u.Wf) (hln : Hid (∀ x ∈ u.gs, 0 ≤ x.len ∧ x.len < 4294967296)) (hu : UIn w false none u v)
    (hra : RowA w args va0) (hrv : RowA w values vv0) (hrl : RowA w later vl0) (hU : Hid (∀ x ∈ args, U x)) (hV : Hid (∀ x ∈ values, U x)) (hL : Hid (∀ x ∈ later, U x)) (hvl : values.length ≤ 10000000) (hll : later.length ≤ 10000000) :
    Calls Tryz.prog 5 #[v, .agg #[.string nm, va0, .int .i64 st, .int .i64 mo, vv0, vl0]] w fun e w' => e = .returned (.bool true) ∧ Below w.heap.size w w' := by
  have HU := hid hu
  have OK := hid ok
  have WF := hid wf
  obtain ⟨Kf, hKf⟩ := call_fuel
  have HKf := hid hKf
  obtain ⟨al, hal⟩ : ∃ al : Nat, pickV st = (al : Int) := ⟨(pickV st).toNat, by have := pickV_in st; omega⟩
  obtain ⟨bl, hbl⟩ : ∃ bl : Nat, pickV mo = (bl : Int) := ⟨(pickV mo).toNat, by have := pickV_in mo; omega⟩
  have al2 : al < 4000 := by have := pickV_in st; omega
  have bl2 : bl < 4000 := by have := pickV_in mo; omega
  have HAL := hid hal
  have HBL := hid hbl
  have hwr : wrap64 ((al : Int) + (bl : Int)) = ((al + bl : Nat) : Int) := by simp only [wrap64]; omega
  obtain ⟨vg, vh, vf, rfl, hg, hh, hf⟩ := hu
  obtain ⟨ga, gc, rfl⟩ := hg.shape
  obtain ⟨ha, hc, rfl⟩ := hh.shape
  obtain ⟨fa, fc, rfl⟩ := hf.shape
  have HRA := hid hra
  have HRV := hid hrv
  have HRL := hid hrl
  obtain ⟨aa, ab, ao, ac, rfl, -, -⟩ := hra
  obtain ⟨ba0, bb0, bo0, bc0, rfl, -, -⟩ := hrv
  obtain ⟨ca0, cb0, co0, cc0, rfl, -, -⟩ := hrl
  obtain ⟨mg, hmg⟩ : ∃ m, m = u.gs.length := ⟨_, rfl⟩
  obtain ⟨mh, hmh⟩ : ∃ m, m = u.hs.length := ⟨_, rfl⟩
  obtain ⟨mf, hmf⟩ : ∃ m, m = u.fs.length := ⟨_, rfl⟩
  obtain ⟨la, hla⟩ : ∃ m, m = args.length := ⟨_, rfl⟩
  obtain ⟨lv, hlv⟩ : ∃ m, m = values.length := ⟨_, rfl⟩
  obtain ⟨ll, hll2⟩ : ∃ m, m = later.length := ⟨_, rfl⟩
  rw [← hmg, ← hmh, ← hmf] at HU ⊢
  rw [← hla] at HRA ⊢
  rw [← hlv] at HRV hvl ⊢
  rw [← hll2] at HRL hll ⊢
  have HLA := hid hla
  have HLV := hid hlv
  have HLL := hid hll2
  obtain ⟨W1, hW1⟩ : ∃ x : World, x = (w.alloc (.cells #[.slice ga mg gc, .slice ha mh hc, .slice fa mf fc] 26)).alloc (.cells #[.string nm, .slice aa la ac, .int .i64 st, .int .i64 mo, .slice ba0 lv bc0, .slice ca0 ll cc0] 29) := ⟨_, rfl⟩
  have A1 := hid (show A4 w w.heap.size #[.slice ga mg gc, .slice ha mh hc, .slice fa mf fc] #[.string nm, .slice aa la ac, .int .i64 st, .int .i64 mo, .slice ba0 lv bc0, .slice ca0 ll cc0] W1 by rw [hW1]; exact A4.start _ _ _)
  have c1 := hid (lives8 W1)
  clear hg hh hf ok wf hKf hal hbl hmg hmh hmf hla hlv hll2
  go_enter Tryz.func5, Tryz.ntmps5
  go_wp2_with fail
  rw [← hW1]
  clear hW1
  refine c1.out.mono ?_
  rintro e w2 ⟨rfl, hb2⟩
  have A2 := hid (A1.out.on hb2)
  have c2 := hid (large9 u (.agg #[.slice ga mg gc, .slice ha mh hc, .slice fa mf fc]) w2 OK.out (HU.out.mono A2.out.below))
  have p0 := A2.out.b1.cell 0
  have p1 := A2.out.b1.cell 1
  have p2 := A2.out.b1.cell 2
  simp at p0 p1 p2
  clear c1 hb2
  go_wp2_with fail
  refine c2.out.mono ?_
  rintro e w3 ⟨⟨b, rfl⟩, hb3⟩
  have A3 := hid (A2.out.on hb3)
  clear c2 hb3 p0 p1 p2
  cases b with
  | true =>
    go_wp2_with fail
    go_ret
    exact ⟨rfl, A3.out.below⟩
  | false =>
    have c3 := hid (new16 u (.agg #[.slice ga mg gc, .slice ha mh hc, .slice fa mf fc]) w3 OK.out WF.out hln (HU.out.mono A3.out.below))
    have p0 := A3.out.b1.cell 0
    have p1 := A3.out.b1.cell 1
    have p2 := A3.out.b1.cell 2
    simp at p0 p1 p2
    go_wp2_with fail
    refine c3.out.mono ?_
    intro e w4 hp
    obtain ⟨hb4, hor⟩ := hp
    have A4a := hid (A3.out.on hb4)
    clear c3 hb4 p0 p1 p2
    rcases hor with ⟨hs, rfl⟩ | ⟨hs, B, vs, cs, X, vb, cb, pb, vg', vh', vf', hv, xs, rfl, hgu, hB, hX, hW⟩
    · generalize senseU u = ck at hs ⊢
      have hck : (ck == 0) = false := by simpa using hs
      have hck2 : (ck != 0) = true := by simpa using hs
      go_wp2_with fail
      go_ret
      exact ⟨rfl, A4a.out.below⟩
    have HS := hid hs
    have HG := hid hgu
    have nB := hid (show w.heap.size + 2 ≤ B by have := A3.out.b2.lt; omega)
    have FX := hid (fun b (hb : own52 xs b) => hW.far52 hb)
    have IO := hid (HdOk.init WF.out hs)
    have H256 := hid (show u.gs.length ≤ 256 by obtain ⟨_, _, _, _, h256, _⟩ := sense_parts hs; exact h256)
    have c5 := hid (clone22 B u vs cs _ _ xs X vb cb pb vg' vh' vf' hv w4 hW (by have := IO.out.len; have := H256.out; omega) (hid fun a ha => (IO.out.pos WF.out hs a.2 (List.mem_map.2 ⟨a, ha, rfl⟩)).2))
    have HW4 := hid hW
    clear hs hgu hB hX hW
    go_wp2_with fail
    refine c5.out.mono ?_
    rintro e w5 ⟨X', hv', ys, rfl, hb5, hW', hY, hX'⟩
    have A5 := hid (A4a.out.on hb5)
    have W5 := hid (HW4.out.on hb5)
    have V5 := hid hW'
    have FY := hid (fun b (hb : own52 ys b) => (show w4.heap.size ≤ b ∧ b < w5.heap.size from ⟨hY b hb, (hW'.far52 hb).2⟩))
    have S5 := hid (show B ≤ w4.heap.size ∧ w4.heap.size ≤ w5.heap.size from ⟨HW4.out.lB, hb5.size⟩)
    clear c5 hb5 hW' hY hX' HW4
    have cp := pick12 st w5
    rw [HAL.out] at cp
    have q2 := A5.out.b2.cell 2
    simp at q2
    go_wp2_with fail
    refine cp.mono ?_
    rintro e w6 ⟨rfl, rfl⟩
    clear cp q2
    have cp := pick12 mo w6
    rw [HBL.out] at cp
    have q3 := A5.out.b2.cell 3
    simp at q3
    go_wp2_with fail
    refine cp.mono ?_
    rintro e w7 ⟨rfl, rfl⟩
    clear cp q3
    have q4 := A5.out.b2.cell 4
    simp at q4
    go_wp2_with (at_builtin; first
      | (refine wpList_append_words rfl _ _ rfl w7.heap.size (.slice none 0 0) 0 [] (World.ownsRow_nil _ _ _ _) values (.slice ba0 lv bc0) (HRV.out.below A5.out.below) (by have := HLV.out; omega) (Nat.le_refl _) rfl rfl ?_
         intro v8 w8 hA
         have R8 := hid (show w8.ownsRow w7.heap.size 52 1 v8 values.length (values.map (Value.int .u32)) by have h := hA.own; rwa [Nat.zero_add, List.nil_append] at h)
         have B8 := hid ((Below.refl w7.heap.size w7).grown hA.grown (Nat.le_refl _) (fun q e => by cases e))
         have A8 := hid (A5.out.on B8.out)
         have q5 := A8.out.b2.cell 5
         obtain ⟨na8, nc8, rfl, -⟩ := own_shape2 R8.out
         simp at q5
         clear hA q4)
      | (refine wpList_append_words rfl _ _ rfl w7.heap.size (.slice na8 values.length nc8) values.length _ R8.out later (.slice ca0 ll cc0) (HRL.out.below A8.out.below) (by have := HLV.out; have := HLL.out; omega) B8.out.size rfl rfl ?_
         intro v9 w9 hA
         have R9 := hid (show w9.ownsRow w7.heap.size 52 1 v9 (values.length + later.length) ((values ++ later).map (Value.int .u32)) by have h := hA.own; rwa [← List.map_append] at h)
         have B9 := hid (B8.out.trans ((Below.refl w7.heap.size w8).grown hA.grown B8.out.size (fun q e => (R8.out.lt q e).1)))
         obtain ⟨na9, nc9, rfl, -⟩ := own_shape2 R9.out
         have A9 := hid (A5.out.on B9.out)
         have W9 := hid (W5.out.on B9.out)
         have V9 := hid (V5.out.on B9.out)
         have q0 := A9.out.b2.cell 0
         have q1 := A9.out.b2.cell 1
         have q4 := A9.out.b2.cell 4
         simp at q0 q1 q4
         clear hA q5))
    have c16 := hid (call17_any (s := nm) (k := Kf) W9.out WF.out HS.out HG.out IO.out hU.out (HRA.out.below A9.out.below) (al := al) (by omega) hV.out (HRV.out.valR A9.out.below (fun b hb => by have := (FX.out b hb).1; have := nB.out; omega)) (by have := HLV.out; omega) (fun g q1 q2 q3 => HKf.out u vs cs al values nm g args _ WF.out HS.out HG.out (by omega) hV.out q1 q2 q3))
    refine c16.out.mono ?_
    rintro e w10 (⟨he, rfl, hb10⟩ | ⟨he, g, hq, hh, hl, hp⟩)
    · have A10 := hid (A9.out.on hb10)
      have V10 := hid (V9.out.on hb10)
      have R10 := hid (ownsRow_at R9.out (hb10.mono (Nat.le_refl _)))
      have bA : Below w10.heap.size w10 (w10.alloc (.cells #[.int .u8 0, .int .u32 0, .int .u8 0, .int .i64 0, .int .i64 0, .slice none 0 0] 56)) := by (repeat (first | exact Below.refl _ _ | refine Below.drew ?_ | refine Below.alloc ?_ (by simp <;> omega) _))
      have A11 := hid (A10.out.on bA)
      have V11 := hid (V10.out.on bA)
      have R11 := hid (ownsRow_at R10.out bA)
      have c17 := hid (call17_any (s := nm) (k := Kf) V11.out WF.out HS.out HG.out IO.out hU.out (HRA.out.below A11.out.below) (al := al + bl) (values := values ++ later) (by omega) (fun x hx => by rcases List.mem_append.1 hx with q | q; (· exact hV.out x q); (· exact hL.out x q)) (row_valR R11.out (by simp) (fun b hb => (FY.out b hb).2)) (by have := HLV.out; have := HLL.out; simp; omega) (fun g q1 q2 q3 => HKf.out u vs cs (al + bl) (values ++ later) nm g args _ WF.out HS.out HG.out (by omega) (fun x hx => by rcases List.mem_append.1 hx with q | q; (· exact hV.out x q); (· exact hL.out x q)) q1 q2 q3))
      have h3 : callE cs nm args.length = 291 ∨ callE cs nm args.length = 293 := by rcases callE_three cs nm args.length with h | h; (· exact absurd h he); (· exact h)
      have r0 := A11.out.b2.cell 0
      have r1 := A11.out.b2.cell 1
      simp at r0 r1
      clear c16 hb10 bA
      unfold zeroO
      rcases h3 with h3 | h3
      · rw [h3] at c17 ⊢
        go_wp2_with fail
        refine c17.out.mono ?_
        rintro e w12 (⟨-, rfl, hb12⟩ | ⟨he2, -⟩)
        · have A12 := hid (A11.out.on hb12)
          unfold zeroO
          clear c17 hb12 r0 r1
          go_wp2_with fail
          go_ret
          exact ⟨rfl, by have h := A12.out.below; exact h.alloc (by have := A12.out.b1.lt; omega) _⟩
        · exact absurd he2 (by decide)
      · rw [h3] at c17 ⊢
        go_wp2_with fail
        refine c17.out.mono ?_
        rintro e w12 (⟨-, rfl, hb12⟩ | ⟨he2, -⟩)
        · have A12 := hid (A11.out.on hb12)
          unfold zeroO
          clear c17 hb12 r0 r1
          go_wp2_with fail
          go_ret
          exact ⟨rfl, by have h := A12.out.below; exact h.alloc (by have := A12.out.b1.lt; omega) _⟩
        · exact absurd he2 (by decide)
    · obtain ⟨m1, en1, x1, fa1, ve1, hor1, rfl, hW10, hK10, ⟨ats1, hE1⟩, hO1⟩ := hp
      have hi1 : m1.reps = m1.evs.length := by
        have hk := (evl_keeps (cfU u vs cs al values) (((initH u.gs).map (·.2)).map List.length) Kf).F 0 g args ⟨(initH u.gs).map (·.2), 0, 0, []⟩ ⟨Nat.zero_le _, Nat.zero_le _, rfl, rfl⟩
        rcases hor1 with ⟨q, -, -⟩ | ⟨q, -⟩
        · rw [q] at hk; exact hk.evs
        · rw [q] at hk; exact hk.1.evs
      have A10 := hid (A9.out.far (W9.out.far (Nat.le_refl _) hK10) nB.out)
      have V10 := hid (V9.out.other W9.out hK10 (fun b h1 h2 => by have := (FY.out b h1).1; have := (FX.out b h2).2; omega))
      have R10 := hid (hK10.own R9.out fun b hb => ⟨(R9.out.lt b hb).2, fun q => by have := (FX.out b q).2; have := (R9.out.lt b hb).1; have := S5.out.2; omega⟩)
      have W10 := hid hW10
      have O10 := hid hO1
      have E10 := hid hE1
      obtain ⟨e1a, e1c, hev1, -⟩ := own_shape2 hE1.row
      rw [hev1, hi1]
      have HEV1 := hid hev1
      have OR1 := hid (show EndO ((evl (cfU u vs cs al values) Kf).F 0 g args ⟨(initH u.gs).map (·.2), 0, 0, []⟩) m1 en1 x1 fa1 from hor1)
      have HQ := hid hq
      have HHE := hid he
      have bA : Below w10.heap.size w10 (w10.alloc (.cells #[.int .u8 en1, .int .u32 x1, .int .u8 fa1, .int .i64 m1.steps, .int .i64 m1.evs.length, .slice e1a m1.evs.length e1c] 56)) := by (repeat (first | exact Below.refl _ _ | refine Below.drew ?_ | refine Below.alloc ?_ (by simp <;> omega) _))
      have A11 := hid (A10.out.on bA)
      have V11 := hid (V10.out.on bA)
      have W11 := hid (W10.out.on bA)
      have R11 := hid (ownsRow_at R10.out bA)
      have E11 := hid (E10.out.below bA)
      have X11 := hid (Bx.new w10 #[.int .u8 en1, .int .u32 x1, .int .u8 fa1, .int .i64 m1.steps, .int .i64 m1.evs.length, .slice e1a m1.evs.length e1c] 56)
      have s910 := hid hK10.size
      have c17 := hid (call17_any (s := nm) (k := Kf) V11.out WF.out HS.out HG.out IO.out hU.out (HRA.out.below A11.out.below) (al := al + bl) (values := values ++ later) (by omega) (fun x hx => by rcases List.mem_append.1 hx with q | q; (· exact hV.out x q); (· exact hL.out x q)) (row_valR R11.out (by simp) (fun b hb => (FY.out b hb).2)) (by have := HLV.out; have := HLL.out; simp; omega) (fun g q1 q2 q3 => HKf.out u vs cs (al + bl) (values ++ later) nm g args _ WF.out HS.out HG.out (by omega) (fun x hx => by rcases List.mem_append.1 hx with q | q; (· exact hV.out x q); (· exact hL.out x q)) q1 q2 q3))
      have r0 := A11.out.b2.cell 0
      have r1 := A11.out.b2.cell 1
      simp at r0 r1
      clear c16 bA hi1 hor1 hW10 hK10 hE1 hO1 hev1 hq hh hl he q0 q1 q4
      go_wp2_with fail
      refine c17.out.mono ?_
      rintro e w12 (⟨he2, -⟩ | ⟨-, g2, hq2, hh2, hl2, hp2⟩)
      · exact absurd HHE.out he2
      rw [HQ.out] at hq2
      cases hq2
      obtain ⟨m2, en2, x2, fa2, ve2, hor2, rfl, hV12, hK12, ⟨ats2, hE2⟩, hO2⟩ := hp2
      have OR2 : EndO ((evl (cfU u vs cs (al + bl) (values ++ later)) Kf).F 0 g args ⟨(initH u.gs).map (·.2), 0, 0, []⟩) m2 en2 x2 fa2 := hor2
      have MF := hid (more_facts (cf := cfU u vs cs al values) (cf' := cfU u vs cs (al + bl) (values ++ later)) ⟨rfl, rfl, rfl, rfl, rfl, rfl, by show al ≤ al + bl; omega, ⟨later, rfl⟩⟩ (m0 := ⟨(initH u.gs).map (·.2), 0, 0, []⟩) ⟨Nat.zero_le _, Nat.zero_le _, rfl, rfl⟩ OR1.out OR2)
      have A12 := hid (A11.out.far (V11.out.far (Nat.le_refl _) hK12) nB.out)
      have W12 := hid (W11.out.other V11.out hK12 (fun b h1 h2 => by have := (FY.out b h2).1; have := (FX.out b h1).2; omega))
      have V12 := hid hV12
      have O12 := hid hO2
      have E12 := hid (E11.out.kpt hK12 (fun b hb hy => by have := (FY.out b hy).2; have := B9.out.size; omega))
      have X12 := hid (hK12.box X11.out X11.out.lt (fun ⟨x, hx, hq⟩ => (V11.out.held.box X11.out (by decide) (by decide)).2 x hx hq.symm))
      have F12 := hid hE2
      obtain ⟨e2a, e2c, hev2, -⟩ := own_shape2 hE2.row
      rw [hev2]
      have HEV2 := hid hev2
      have bB : Below w12.heap.size w12 (w12.alloc (.cells #[.int .u8 en2, .int .u32 x2, .int .u8 fa2, .int .i64 m2.steps, .int .i64 m2.reps, .slice e2a m2.evs.length e2c] 56)) := by (repeat (first | exact Below.refl _ _ | refine Below.drew ?_ | refine Below.alloc ?_ (by simp <;> omega) _))
      have A13 := hid (A12.out.on bB)
      have V13 := hid (V12.out.on bB)
      have W13 := hid (W12.out.on bB)
      have E13 := hid (E12.out.below bB)
      have F13 := hid (F12.out.below bB)
      have X13 := hid (X12.out.on (grown_of_below bB) (by simp))
      have Y13 := hid (Bx.new w12 #[.int .u8 en2, .int .u32 x2, .int .u8 fa2, .int .i64 m2.steps, .int .i64 m2.reps, .slice e2a m2.evs.length e2c] 56)
      have mf := MF.out
      have f1 : ¬ en1 < 1 := by have := mf.e1; omega
      have f2 : ¬ 5 < en1 := by have := mf.e5; omega
      have f3 : ¬ ((al : Int) < (m1.steps : Int)) := by have := mf.steps; simp only [] at this; omega
      have f4 : ¬ ((lv : Int) < (m1.evs.length : Int)) := by have h1 := mf.reps; have h2 := mf.evs; have := HLV.out; simp only [] at h1; omega
      have f6 : ¬ ((m2.evs.length : Int) < (m1.evs.length : Int)) := by obtain ⟨l, hl⟩ := mf.ext; rw [hl]; simp; omega
      have f7 : ¬ ((m2.steps : Int) < (m1.steps : Int)) := by have := mf.lo; omega
      have z0 := X13.out.cell 0
      have z3 := X13.out.cell 3
      have z4 := X13.out.cell 4
      have z5 := X13.out.cell 5
      have y3 := Y13.out.cell 3
      have y5 := Y13.out.cell 5
      simp at z0 z3 z4 z5 y3 y5
      have u4 := A13.out.b2.cell 4
      simp at u4
      clear c17 r0 r1 OR2 hor2 hV12 hK12 hE2 hO2 hev2 mf bB A12 V12 W12 E12 F12 X12 A11 V11 W11 R11 E11 X11 R10 W10 V10 A10 E10
      by_cases h3 : en1 = 3
      · have hst : m1.steps = al := MF.out.s3 h3
        subst h3
        rw [hst] at z3
        go_wp2_with fail
        clear z0 z3 z4 z5 y3 y5 u4 hst f1 f2 f3 f4 f6 f7
        generalize w12.alloc (.cells #[.int .u8 en2, .int .u32 x2, .int .u8 fa2, .int .i64 m2.steps, .int .i64 m2.reps, .slice e2a m2.evs.length e2c] 56) = w13 at A13 V13 W13 E13 F13 X13 Y13 ⊢
        generalize w12.heap.size = b13 at Y13 ⊢
        generalize w10.heap.size = b11 at X13 ⊢
        have D13 := hid (Below.refl w13.heap.size w13).drew
        have A14 := hid (A13.out.on D13.out)
        have V14 := hid (V13.out.on D13.out)
        have W14 := hid (W13.out.on D13.out)
        have E14 := hid (E13.out.below D13.out)
        have F14 := hid (F13.out.below D13.out)
        have X14 := hid (X13.out.on (grown_of_below D13.out) (by simp))
        have Y14 := hid (Y13.out.on (grown_of_below D13.out) (by simp))
        have k1 : (m1.evs.length : Int) ≤ (e2c : Int) := by have h8 := F13.out.row; rw [HEV2.out] at h8; have h9 := own_cap h8; obtain ⟨l, hl⟩ := MF.out.ext; rw [hl] at h9; simp at h9; omega
        have k2 : (0 : Int) ≤ (m1.evs.length : Int) := by omega
        clear A13 V13 W13 E13 F13 X13 Y13
        refine wp_region_held_drew (S := (fun w9 => Bx w9 b11 #[.int .u8 3, .int .u32 x1, .int .u8 fa1, .int .i64 m1.steps, .int .i64 m1.evs.length, .slice e1a m1.evs.length e1c] 56 ∧ Bx w9 b13 #[.int .u8 en2, .int .u32 x2, .int .u8 fa2, .int .i64 m2.steps, .int .i64 m2.reps, .slice e2a m2.evs.length e2c] 56)) (by kernel_rfl) ⟨X14.out, Y14.out⟩ (fun hHeld => ?_)
        generalize w13.drew = w14 at A14 V14 W14 E14 F14 X14 Y14 hHeld ⊢
        clear D13
        refine tk 0 ?_
        refine tk 1 ?_ (hy := by intro w' hSw; have q := hSw.1.cell 5; simp at q; go_simp; (try with_reducible rfl))
        refine tk 2 ?_
        refine tk 3 ?_ (hy := by intro w' hSw; have q := hSw.2.cell 5; simp at q; go_simp; (try with_reducible rfl))
        refine tk 4 ?_
        refine tk 5 ?_ (hy := by intro w' hSw; have q := hSw.1.cell 5; simp at q; go_simp; (try with_reducible rfl))
        refine tk 6 ?_
        refine tk 7 ?_
        have EC1 := hid (show EvC w14 m1.evs (.slice e1a m1.evs.length e1c) by have h := E14.out.reads; rwa [HEV1.out] at h)
        have EC2 := hid (show EvC w14 m1.evs (.slice e2a m1.evs.length e2c) by have h := F14.out.reads; rw [HEV2.out] at h; exact ev_take MF.out.ext h)
        refine tr 8 fun K hK => ?_
        go_simp
        go_at_call 23
        refine (sameEvents23 m1.evs _ _ w14 EC1.out EC2.out (by have h1 := MF.out.reps; have h2 := MF.out.evs; have h3 := HLV.out; (try simp only [] at h1); omega) (hid (E14.out.small))).mono ?_
        rintro e w15 ⟨rfl, hb15⟩
        have hk : Bx w15 b11 #[.int .u8 3, .int .u32 x1, .int .u8 fa1, .int .i64 m1.steps, .int .i64 m1.evs.length, .slice e1a m1.evs.length e1c] 56 ∧ Bx w15 b13 #[.int .u8 en2, .int .u32 x2, .int .u8 fa2, .int .i64 m2.steps, .int .i64 m2.reps, .slice e2a m2.evs.length e2c] 56 := ⟨hHeld.1.on (grown_of_below hb15) (by simp), hHeld.2.on (grown_of_below hb15) (by simp)⟩
        have A15 := hid (A14.out.on hb15)
        have V15 := hid (V14.out.on hb15)
        have W15 := hid (W14.out.on hb15)
        have E15 := hid (E14.out.below hb15)
        have F15 := hid (F14.out.below hb15)
        have XY := hid hk
        clear hHeld hb15 A14 V14 W14 E14 F14 X14 Y14 EC1 EC2
        go_wp2_with fail
        refine hK.out _ _ hk (fun hHeld => ?_)
        clear hK K hk
        try simp only [tpa, tpb, tpc, tpd, tpe]
        refine tk 9 ?_
        refine td ?_
        clear hHeld
        have z0 := XY.out.1.cell 0
        simp at z0
        go_wp2_with fail
        go_ret
        exact ⟨rfl, A15.out.below⟩
      by_cases h4 : en1 = 4
      · have hst : m1.evs.length = lv := by have h1 := MF.out.s4 h4; have h2 := MF.out.evs; have := HLV.out; (try simp only [] at h1); omega
        subst h4
        rw [hst] at z4 z5 f4 f6
        go_wp2_with fail
        clear z0 z3 z4 z5 y3 y5 u4 hst f1 f2 f3 f4 f6 f7
        generalize w12.alloc (.cells #[.int .u8 en2, .int .u32 x2, .int .u8 fa2, .int .i64 m2.steps, .int .i64 m2.reps, .slice e2a m2.evs.length e2c] 56) = w13 at A13 V13 W13 E13 F13 X13 Y13 ⊢
        generalize w12.heap.size = b13 at Y13 ⊢
        generalize w10.heap.size = b11 at X13 ⊢
        have D13 := hid (Below.refl w13.heap.size w13).drew
        have A14 := hid (A13.out.on D13.out)
        have V14 := hid (V13.out.on D13.out)
        have W14 := hid (W13.out.on D13.out)
        have E14 := hid (E13.out.below D13.out)
        have F14 := hid (F13.out.below D13.out)
        have X14 := hid (X13.out.on (grown_of_below D13.out) (by simp))
        have Y14 := hid (Y13.out.on (grown_of_below D13.out) (by simp))
        have k1 : (m1.evs.length : Int) ≤ (e2c : Int) := by have h8 := F13.out.row; rw [HEV2.out] at h8; have h9 := own_cap h8; obtain ⟨l, hl⟩ := MF.out.ext; rw [hl] at h9; simp at h9; omega
        have k2 : (0 : Int) ≤ (m1.evs.length : Int) := by omega
        clear A13 V13 W13 E13 F13 X13 Y13
        refine wp_region_held_drew (S := (fun w9 => Bx w9 b11 #[.int .u8 4, .int .u32 x1, .int .u8 fa1, .int .i64 m1.steps, .int .i64 m1.evs.length, .slice e1a m1.evs.length e1c] 56 ∧ Bx w9 b13 #[.int .u8 en2, .int .u32 x2, .int .u8 fa2, .int .i64 m2.steps, .int .i64 m2.reps, .slice e2a m2.evs.length e2c] 56)) (by kernel_rfl) ⟨X14.out, Y14.out⟩ (fun hHeld => ?_)
        generalize w13.drew = w14 at A14 V14 W14 E14 F14 X14 Y14 hHeld ⊢
        clear D13
        refine tk 0 ?_
        refine tk 1 ?_ (hy := by intro w' hSw; have q := hSw.1.cell 5; simp at q; go_simp; (try with_reducible rfl))
        refine tk 2 ?_
        refine tk 3 ?_ (hy := by intro w' hSw; have q := hSw.2.cell 5; simp at q; go_simp; (try with_reducible rfl))
        refine tk 4 ?_
        refine tk 5 ?_ (hy := by intro w' hSw; have q := hSw.1.cell 5; simp at q; go_simp; (try with_reducible rfl))
        refine tk 6 ?_
        refine tk 7 ?_
        have EC1 := hid (show EvC w14 m1.evs (.slice e1a m1.evs.length e1c) by have h := E14.out.reads; rwa [HEV1.out] at h)
        have EC2 := hid (show EvC w14 m1.evs (.slice e2a m1.evs.length e2c) by have h := F14.out.reads; rw [HEV2.out] at h; exact ev_take MF.out.ext h)
        refine tr 8 fun K hK => ?_
        go_simp
        go_at_call 23
        refine (sameEvents23 m1.evs _ _ w14 EC1.out EC2.out (by have h1 := MF.out.reps; have h2 := MF.out.evs; have h3 := HLV.out; (try simp only [] at h1); omega) (hid (E14.out.small))).mono ?_
        rintro e w15 ⟨rfl, hb15⟩
        have hk : Bx w15 b11 #[.int .u8 4, .int .u32 x1, .int .u8 fa1, .int .i64 m1.steps, .int .i64 m1.evs.length, .slice e1a m1.evs.length e1c] 56 ∧ Bx w15 b13 #[.int .u8 en2, .int .u32 x2, .int .u8 fa2, .int .i64 m2.steps, .int .i64 m2.reps, .slice e2a m2.evs.length e2c] 56 := ⟨hHeld.1.on (grown_of_below hb15) (by simp), hHeld.2.on (grown_of_below hb15) (by simp)⟩
        have A15 := hid (A14.out.on hb15)
        have V15 := hid (V14.out.on hb15)
        have W15 := hid (W14.out.on hb15)
        have E15 := hid (E14.out.below hb15)
        have F15 := hid (F14.out.below hb15)
        have XY := hid hk
        clear hHeld hb15 A14 V14 W14 E14 F14 X14 Y14 EC1 EC2
        go_wp2_with fail
        refine hK.out _ _ hk (fun hHeld => ?_)
        clear hK K hk
        try simp only [tpa, tpb, tpc, tpd, tpe]
        refine tk 9 ?_
        refine td ?_
        clear hHeld
        have z0 := XY.out.1.cell 0
        simp at z0
        go_wp2_with fail
        go_ret
        exact ⟨rfl, A15.out.below⟩
      obtain ⟨rfl, rfl, rfl, rfl⟩ := MF.out.same (by omega)
      have g3 : (en2 == 3) = false := by simpa using h3
      have g4 : (en2 == 4) = false := by simpa using h4
      clear h3 h4
      go_wp2_with fail
      clear z0 z3 z4 z5 y3 y5 u4 f1 f2 f3 f4 f6 f7
      generalize w12.alloc (.cells #[.int .u8 en2, .int .u32 x2, .int .u8 fa2, .int .i64 m2.steps, .int .i64 m2.reps, .slice e2a m2.evs.length e2c] 56) = w13 at A13 V13 W13 E13 F13 X13 Y13 ⊢
      generalize w12.heap.size = b13 at Y13 ⊢
      generalize w10.heap.size = b11 at X13 ⊢
      have D13 := hid (Below.refl w13.heap.size w13).drew
      have A14 := hid (A13.out.on D13.out)
      have V14 := hid (V13.out.on D13.out)
      have W14 := hid (W13.out.on D13.out)
      have E14 := hid (E13.out.below D13.out)
      have F14 := hid (F13.out.below D13.out)
      have X14 := hid (X13.out.on (grown_of_below D13.out) (by simp))
      have Y14 := hid (Y13.out.on (grown_of_below D13.out) (by simp))
      have k1 : (m2.evs.length : Int) ≤ (e2c : Int) := by have h8 := F13.out.row; rw [HEV2.out] at h8; have h9 := own_cap h8; obtain ⟨l, hl⟩ := MF.out.ext; rw [hl] at h9; simp at h9; omega
      have k2 : (0 : Int) ≤ (m2.evs.length : Int) := by omega
      clear A13 V13 W13 E13 F13 X13 Y13
      refine wp_region_held_drew (S := (fun w9 => Bx w9 b11 #[.int .u8 en2, .int .u32 x2, .int .u8 fa2, .int .i64 m2.steps, .int .i64 m2.evs.length, .slice e1a m2.evs.length e1c] 56 ∧ Bx w9 b13 #[.int .u8 en2, .int .u32 x2, .int .u8 fa2, .int .i64 m2.steps, .int .i64 m2.reps, .slice e2a m2.evs.length e2c] 56)) (by kernel_rfl) ⟨X14.out, Y14.out⟩ (fun hHeld => ?_)
      generalize w13.drew = w14 at A14 V14 W14 E14 F14 X14 Y14 hHeld ⊢
      clear D13
      refine tk 0 ?_
      refine tk 1 ?_ (hy := by intro w' hSw; have q := hSw.1.cell 5; simp at q; go_simp; (try with_reducible rfl))
      refine tk 2 ?_
      refine tk 3 ?_ (hy := by intro w' hSw; have q := hSw.2.cell 5; simp at q; go_simp; (try with_reducible rfl))
      refine tk 4 ?_
      refine tk 5 ?_ (hy := by intro w' hSw; have q := hSw.1.cell 5; simp at q; go_simp; (try with_reducible rfl))
      refine tk 6 ?_
      refine tk 7 ?_
      have EC1 := hid (show EvC w14 m2.evs (.slice e1a m2.evs.length e1c) by have h := E14.out.reads; rwa [HEV1.out] at h)
      have EC2 := hid (show EvC w14 m2.evs (.slice e2a m2.evs.length e2c) by have h := F14.out.reads; rw [HEV2.out] at h; exact ev_take MF.out.ext h)
      refine tr 8 fun K hK => ?_
      go_simp
      go_at_call 23
      refine (sameEvents23 m2.evs _ _ w14 EC1.out EC2.out (by have h1 := MF.out.reps; have h2 := MF.out.evs; have h3 := HLV.out; (try simp only [] at h1); omega) (hid (E14.out.small))).mono ?_
      rintro e w15 ⟨rfl, hb15⟩
      have hk : Bx w15 b11 #[.int .u8 en2, .int .u32 x2, .int .u8 fa2, .int .i64 m2.steps, .int .i64 m2.evs.length, .slice e1a m2.evs.length e1c] 56 ∧ Bx w15 b13 #[.int .u8 en2, .int .u32 x2, .int .u8 fa2, .int .i64 m2.steps, .int .i64 m2.reps, .slice e2a m2.evs.length e2c] 56 := ⟨hHeld.1.on (grown_of_below hb15) (by simp), hHeld.2.on (grown_of_below hb15) (by simp)⟩
      have A15 := hid (A14.out.on hb15)
      have V15 := hid (V14.out.on hb15)
      have W15 := hid (W14.out.on hb15)
      have E15 := hid (E14.out.below hb15)
      have F15 := hid (F14.out.below hb15)
      have XY := hid hk
      clear hHeld hb15 A14 V14 W14 E14 F14 X14 Y14 EC1 EC2
      go_wp2_with fail
      refine hK.out _ _ hk (fun hHeld => ?_)
      clear hK K hk
      try simp only [tpa, tpb, tpc, tpd, tpe]
      refine tk 9 ?_
      refine td ?_
      clear hHeld
      have z0 := XY.out.1.cell 0
      simp at z0
      have z1 := XY.out.1.cell 1
      have z2 := XY.out.1.cell 2
      have z3 := XY.out.1.cell 3
      have z4 := XY.out.1.cell 4
      have z5 := XY.out.1.cell 5
      have y0 := XY.out.2.cell 0
      have y1 := XY.out.2.cell 1
      have y2 := XY.out.2.cell 2
      have y3 := XY.out.2.cell 3
      have y4 := XY.out.2.cell 4
      have y5 := XY.out.2.cell 5
      simp at z1 z2 z3 z4 z5 y0 y1 y2 y3 y4 y5
      rw [MF.out.evs] at y4
      have EC1 := hid (show EvC w15 m2.evs (.slice e1a m2.evs.length e1c) by have h := E15.out.reads; rwa [HEV1.out] at h)
      have EC2 := hid (show EvC w15 m2.evs (.slice e2a m2.evs.length e2c) by have h := F15.out.reads; rwa [HEV2.out] at h)
      have c18 := hid (sameMeant18 m2.evs _ _ en2 x2 fa2 m2.steps m2.evs.length w15 EC1.out EC2.out (by have h1 := MF.out.reps; have h2 := MF.out.evs; have h3 := HLV.out; (try simp only [] at h1); omega) (hid (E15.out.small)))
      go_wp2_with fail
      refine c18.out.mono ?_
      rintro e w16 ⟨rfl, hb16⟩
      have A16 := hid (A15.out.on hb16)
      have V16 := hid (V15.out.on hb16)
      have W16 := hid (W15.out.on hb16)
      clear c18 hb16 z0 z1 z2 z3 z4 z5 y0 y1 y2 y3 y4 y5 A15 V15 W15 E15 F15 EC1 EC2
      have LW := hid (show Hid (∀ a ∈ hdOf (initH u.gs) m2.held, a.2.length ≤ 4096) from hid fun a ha => (O12.out.pos WF.out HS.out a.2 (List.mem_map.2 ⟨a, ha, rfl⟩)).2)
      have LN := hid (show (hdOf (initH u.gs) m2.held).length ≤ 1000 by have := O12.out.len; have := H256.out; omega)
      have c19 := hid (held20 B u vs cs _ _ xs X vb cb pb vg' vh' vf' hv w16 W16.out LN.out LW.out)
      go_wp2_with fail
      refine c19.out.mono ?_
      rintro e w17 ⟨v17, zs, rfl, hb17, hH17⟩
      have A17 := hid (A16.out.on hb17)
      have V17 := hid (V16.out.on hb17)
      have H17 := hid hH17
      obtain ⟨a17, k17, rfl, -⟩ := own_shape2 hH17.row
      clear c19 hb17 hH17 A16 V16 W16
      have c20 := hid (held20 B u vs cs _ _ ys X' vb cb pb vg' vh' vf' hv' w17 V17.out LN.out LW.out)
      go_wp2_with fail
      refine c20.out.mono ?_
      rintro e w18 ⟨v18, zs2, rfl, hb18, hH18⟩
      have A18 := hid (A17.out.on hb18)
      have c21 := hid (sameHeld19 _ _ v18 w18 (H17.out.mono hb18).reads hH18.reads (by have := LN.out; omega) (hid fun a ha => by have := LW.out.out a ha; omega))
      obtain ⟨a18, k18, rfl, -⟩ := own_shape2 hH18.row
      clear c20 hb18 hH18 A17 V17 H17
      go_wp2_with fail
      refine c21.out.mono ?_
      rintro e w19 ⟨rfl, hb19⟩
      have A19 := hid (A18.out.on hb19)
      clear c21 hb19 A18
      go_wp2_with fail
      go_ret
      exact ⟨rfl, A19.out.below⟩
end
end Go.Proofs.YtlabadkfkbenoaaGreatDoor
