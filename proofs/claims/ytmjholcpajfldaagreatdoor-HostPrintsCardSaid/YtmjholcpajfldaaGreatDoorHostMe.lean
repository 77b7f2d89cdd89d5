/- Walks: a state copied. No condition. -/
import Derived.Test.YtmjholcpajfldaaGreatDoorHostMd
namespace Go.Proofs.YtmjholcpajfldaaGreatDoor
open Go.RowKit
set_option linter.unusedVariables false
set_option linter.unusedSimpArgs false

set_option maxRecDepth 100000

theorem step_append_str {P : Program} {w : World} {ops : Array Oper} {o : Oper} {a : Act} {K : Act → World → Prop} {Q : Exit → Act → World → Prop} {E : Prop} (hgd : o.guard = none) (s x : Operand) (t : TypeId)
    (ho : o.op = .call { callee := .builtin .append, args := #[s, x], argTypes := #[t, t] })
    (base : Nat) (e e' : TypeId) (z : Value) (size bytes m : Nat) (ht : P.underlying t = some (.slice e)) (hinfo : (P.info? e).map (fun i => (i.zero, i.size, i.bytes)) = some (some z, size, bytes))
    (hzs : z.cells.size = size) (hsz : 0 < size)
    (v : Value) (n : Nat) (xs news : List Value) (fr : Nat × Nat) (hown : w.ownsRow base e size v n xs) (hl : news.length = m * size) (h1 : ∀ u ∈ news, u.oneCell' = true)
    (h63 : n + m ≤ maxLen) (hbytes : (n + m) * bytes ≤ 140737488355328) (hbase : base ≤ w.heap.size)
    (hs : a.eval s = v) (hx : a.eval x = .slice (some ⟨w.heap.size, 0, none⟩) m m)
    (h : ∀ v' w', Appended w w' base e size v v' n m xs news → K (a.put o.dst v') w') :
    if Region.wanted o (yielded ops a.tmps) = true then Oper.wp P o a (w.alloc (.cells news.toArray e' fr)) K Q else E := by
  have hw : Region.wanted o (yielded ops a.tmps) = true := by simp [Region.wanted, hgd]
  rw [if_pos hw]
  obtain ⟨i, hi, hz0, hz1, hz2⟩ := info_parts hinfo
  subst hz1
  subst hz2
  obtain ⟨v', w', hr, hA⟩ := append_strong (P := P) (w.alloc (.cells news.toArray e' fr)) base t o.type e i z ht hi hz0 hzs hsz v n xs (hown.alloc _) ⟨w.heap.size, 0, none⟩ m m news hl (by
    intro j u hj
    have hadd : (⟨w.heap.size, 0, none⟩ : Addr).add j = ⟨w.heap.size, j, none⟩ := by unfold Addr.add; split <;> simp_all
    rw [hadd, World.cell?_alloc_mark]; simpa using hj) h1 h63 hbytes (by simp; omega)
  unfold Oper.wp execOp
  simp only [ho, resolve, invoke, builtin, Sem.run_bind, Sem.run_pure, Result.andThen_ok, List.map_toArray, List.map_cons, List.map_nil, hs, hx, hr]
  refine h v' w' ⟨hA.own, hA.old, grown_trans (World.grownBy_alloc w _ _) hA.grown, ?_, hA.nil⟩
  rcases hA.place with h | ⟨g, h1, h2, h3⟩
  · exact .inl h
  · exact .inr ⟨g, h1, by simp at h2; omega, h3⟩
theorem row_ne_row {w : World} {B1 B2 e1 e2 s1 s2 n1 n2 : Nat} {v1 v2 : Value} {x1 x2 : List Value} (h1 : w.ownsRow B1 e1 s1 v1 n1 x1) (h2 : w.ownsRow B2 e2 s2 v2 n2 x2) (hne : e1 ≠ e2) : v1.ownBlock = none ∨ v1.ownBlock ≠ v2.ownBlock := by
  rcases h1.2 with ⟨rfl, -⟩ | ⟨g, cp, cur, rfl, hg, hh, r⟩
  · exact .inl rfl
  · refine .inr fun he => ?_
    rcases h2.2 with ⟨rfl, -⟩ | ⟨g2, cp2, cur2, rfl, hg2, hh2, r2⟩
    · cases he
    · simp only [Value.ownBlock, Option.some.injEq] at he
      rw [he, hh2] at hh
      simp only [Option.some.injEq, Obj.cells.injEq] at hh
      exact hne hh.2.1.symm
theorem cell_gr {w w' : World} {row : Option Nat} (hg : w.grownBy w' row) {a : Addr} {v : Value} (h : w.cell? a = some v) (hn : some a.block ≠ row) : w'.cell? a = some v := by
  have hb := hg.block a.block (World.block_lt_of_cell? w _ h) hn
  unfold World.cell? at h ⊢
  rw [hb]
  exact h
/-- names with words, as cells -/
def prs (l : NW) : List Value := l.flatMap fun x => [.string x.1, .int .u32 x.2]
theorem prs_len (l : NW) : (prs l).length = l.length * 2 := by
  induction l with
  | nil => rfl
  | cons x r ih => simp only [prs, List.flatMap_cons, List.length_append, List.length_cons, List.length_nil] at ih ⊢; omega
theorem prs_snoc (l : NW) (k : Nat) (h : k < l.length) : prs (l.take (k + 1)) = prs (l.take k) ++ [.string (nmA l k), .int .u32 (wdA l k)] := by
  rw [take_snoc l k (⟨#[]⟩, 0) h]
  simp [prs, nmA, wdA]
theorem bv_snoc (l : List UInt8) (k : Nat) (h : k < l.length) : bv (l.take (k + 1)) = bv (l.take k) ++ [.int .u8 ((l.getD k 0).toNat : Int)] := by
  rw [take_snoc l k 0 h]
  simp [bv]
/-- a copy of a state -/
structure Cp (w : World) (B c : Nat) (v vv : Value) (con : List UInt8) (l : NW) (sd ck : Int) : Prop where
  bx : Bx w c #[v, vv, .int .u64 sd, .int .u32 ck] 45
  ob : w.ownsRow B 5 1 v con.length (bv con)
  ov : w.ownsRow B 77 2 vv l.length (prs l)
  lo : B ≤ c
set_option maxHeartbeats 16000000 in
theorem copied17 (co vo : Option Addr) (m n cc vc : Nat) (con : List UInt8) (hcl : con.length = m) (l : NW) (hl : l.length = n) (sd ck : Int) (w : World) (hv : Vr w vo l) (hb : By w co con) (h1 : m ≤ 140737488355328) (h2 : n * 24 ≤ 140737488355328) :
    Calls Tryz.prog 17 #[.agg #[.slice co m cc, .slice vo n vc, .int .u64 sd, .int .u32 ck]] w fun e w' => ∃ c v vv, e = .returned (.pointer (some ⟨c, 0, none⟩)) ∧ Cp w' w.heap.size c v vv con l sd ck ∧ Below w.heap.size w w' := by
  have b0 := (Below.refl w.heap.size w).alloc (Nat.le_refl _) (.cells #[.slice co m cc, .slice vo n vc, .int .u64 sd, .int .u32 ck] 45)
  have X0 := Bx.new w #[.slice co m cc, .slice vo n vc, .int .u64 sd, .int .u32 ck] 45
  have b1 := (Below.refl (w.alloc (.cells #[.slice co m cc, .slice vo n vc, .int .u64 sd, .int .u32 ck] 45)).heap.size (w.alloc (.cells #[.slice co m cc, .slice vo n vc, .int .u64 sd, .int .u32 ck] 45))).alloc (Nat.le_refl _) (.cells #[.slice none 0 0, .slice none 0 0, .int .u64 sd, .int .u32 ck] 45)
  have X1 := hid (X0.below b1)
  have C1 := Bx.new (w.alloc (.cells #[.slice co m cc, .slice vo n vc, .int .u64 sd, .int .u32 ck] 45)) #[.slice none 0 0, .slice none 0 0, .int .u64 sd, .int .u32 ck] 45
  rw [World.size_alloc] at C1
  have B1 := hid (b0.trans (b1.mono (by simp)))
  have c2 : (w.alloc (.cells #[.slice co m cc, .slice vo n vc, .int .u64 sd, .int .u32 ck] 45)).cell? ⟨w.heap.size, 2, none⟩ = some (.int .u64 sd) := by simp
  have c3 : (w.alloc (.cells #[.slice co m cc, .slice vo n vc, .int .u64 sd, .int .u32 ck] 45)).cell? ⟨w.heap.size, 3, none⟩ = some (.int .u32 ck) := by simp
  have P1 : Hid (Cp _ w.heap.size (w.heap.size + 1) (.slice none 0 0) (.slice none 0 0) [] [] sd ck) := hid ⟨C1, World.ownsRow_nil _ _ _ _, World.ownsRow_nil _ _ _ _, by omega⟩
  have hV := hid hv
  have hY := hid hb
  have hN := hid hl
  have hC := hid hcl
  have hM1 := hid h1
  have hM2 := hid h2
  clear b0 X0 b1 C1 hv hb hl hcl h1 h2
  go_enter Tryz.func17, Tryz.ntmps17
  go_wp2_with fail
  generalize hc1 : w.heap.size + 1 = c at *
  have hc := hid (show w.heap.size < c by omega)
  clear hc1 c2 c3
  go_loopw [4] (fun i wr => ∃ (k : Nat) (v : Value), k ≤ m ∧ i = .int .i64 k ∧ Hid (Below w.heap.size w wr) ∧ Hid (Bx wr w.heap.size #[.slice co m cc, .slice vo n vc, .int .u64 sd, .int .u32 ck] 45) ∧ Hid (Cp wr w.heap.size c v (.slice none 0 0) (con.take k) [] sd ck)) (fun i _ => m - (intOf i).toNat)
  case atStart => exact ⟨0, _, by omega, rfl, B1, X1, P1⟩
  case round =>
    clear B1 X1 P1
    obtain ⟨k, v, hk, rfl, B2, X2, P2⟩ := hrel
    rename_i wr
    by_cases hlt : k < m
    · obtain ⟨b, off, hvo, hcb⟩ := hY.out.cell
      obtain rfl := hvo.resolve_left (by have := hC.out; omega)
      have d0 := hcb k (by have := hC.out; omega)
      have hbl : Hid (b < w.heap.size) := World.block_lt_of_cell? w _ d0
      have d1 := (B2.out.cell hbl.out).trans d0
      have hsn := hid (bv_snoc con k (by have := hC.out; omega))
      generalize ((con.getD k 0).toNat : Int) = x at *
      clear d0 hvo hcb
      have e0 : wr.cell? ⟨w.heap.size, 0, none⟩ = some (.slice (some ⟨b, off, none⟩) m cc) := by simpa using X2.out.cell 0
      have hlk : (con.take k).length = k := by rw [List.length_take]; have := hC.out; omega
      have ob := P2.out.ob
      rw [hlk] at ob
      have Ob := hid ob
      have Ov := hid P2.out.ov
      have Cb := hid P2.out.bx
      clear ob P2
      go_wp2_with fail
      clear e0
      have bd := (Below.refl wr.heap.size wr).drew
      have d2 := cell_on d1 bd
      have B3 := hid (B2.out.trans (bd.mono B2.out.size))
      have X3 := hid (X2.out.below bd)
      have C3 := hid (Cb.out.below bd)
      have O3 := hid Ob.out.drew
      have V3 := hid Ov.out.drew

      refine wp_region_held_drew (S := (fun w9 => Bx w9 w.heap.size #[.slice (some ⟨b, off, none⟩) m cc, .slice vo n vc, .int .u64 sd, .int .u32 ck] 45 ∧ w9.cell? ⟨b, off + k, none⟩ = some (.int .u8 x))) (by kernel_rfl) ⟨X3.out, d2⟩ (fun hHeld => ?_)
      clear d1 d2 bd B2 X2 Cb Ob Ov
      generalize wr.drew = w4 at *
      refine wpAnyH_take (i := 0) (v := ?_) (by simp only [List.getElem?_toArray, List.getElem?_cons_succ, List.getElem?_cons_zero]; rfl) (by kernel_rfl) (by kernel_rfl) (by kernel_rfl) (by intro _ _ _ h; exact h) (Or.inl ⟨by rfl, ?_⟩) (by assumption) ?_
      rotate_left
      · intro w' hSw; go_simp; (try with_reducible rfl)
      try simp only [Act.put, List.setIfInBounds_toArray, List.set_cons_zero, List.set_cons_succ]
      refine wpAnyH_take (i := 2) (v := ?_) (by simp only [List.getElem?_toArray, List.getElem?_cons_succ, List.getElem?_cons_zero]; rfl) (by kernel_rfl) (by kernel_rfl) (by kernel_rfl) (by intro _ _ _ h; exact h) (Or.inl ⟨by rfl, ?_⟩) (by assumption) ?_
      rotate_left
      · intro w' hSw; go_simp; (try with_reducible rfl)
      try simp only [Act.put, List.setIfInBounds_toArray, List.set_cons_zero, List.set_cons_succ]
      refine wpAnyH_take (i := 3) (v := ?_) (by simp only [List.getElem?_toArray, List.getElem?_cons_succ, List.getElem?_cons_zero]; rfl) (by kernel_rfl) (by kernel_rfl) (by kernel_rfl) (by intro _ _ _ h; exact h) (Or.inl ⟨by rfl, ?_⟩) (by assumption) ?_
      rotate_left
      · intro w' hSw; have q1 := hSw.1.cell 0; simp at q1; go_simp; (try with_reducible rfl)
      try simp only [Act.put, List.setIfInBounds_toArray, List.set_cons_zero, List.set_cons_succ]
      refine wpAnyH_take (i := 4) (v := ?_) (by simp only [List.getElem?_toArray, List.getElem?_cons_succ, List.getElem?_cons_zero]; rfl) (by kernel_rfl) (by kernel_rfl) (by kernel_rfl) (by intro _ _ _ h; exact h) (Or.inl ⟨by rfl, ?_⟩) (by assumption) ?_
      rotate_left
      · intro w' hSw; go_simp; (try with_reducible rfl)
      try simp only [Act.put, List.setIfInBounds_toArray, List.set_cons_zero, List.set_cons_succ]
      refine wpAnyH_take (i := 5) (v := ?_) (by simp only [List.getElem?_toArray, List.getElem?_cons_succ, List.getElem?_cons_zero]; rfl) (by kernel_rfl) (by kernel_rfl) (by kernel_rfl) (by intro _ _ _ h; exact h) (Or.inl ⟨by rfl, ?_⟩) (by assumption) ?_
      rotate_left
      · intro w' hSw; go_simp; (try with_reducible rfl)
      try simp only [Act.put, List.setIfInBounds_toArray, List.set_cons_zero, List.set_cons_succ]
      refine wpAnyH_take (i := 6) (v := ?_) (by simp only [List.getElem?_toArray, List.getElem?_cons_succ, List.getElem?_cons_zero]; rfl) (by kernel_rfl) (by kernel_rfl) (by kernel_rfl) (by intro _ _ _ h; exact h) (Or.inl ⟨by rfl, ?_⟩) (by assumption) ?_
      rotate_left
      · intro w' hSw; have q2 := hSw.2; go_simp; (try with_reducible rfl)
      try simp only [Act.put, List.setIfInBounds_toArray, List.set_cons_zero, List.set_cons_succ]
      have ba := (Below.refl w4.heap.size w4).alloc (Nat.le_refl _) (.cells #[.int .u8 x] 5)
      have D4 := hid hHeld.2
      have r0 : w4.cell? ⟨c, 0, none⟩ = some v := by simpa using C3.out.cell 0
      have r1 := cell_on r0 ba
      refine wpAnyH_ready (rs := [1, 7]) (by kernel_rfl) (by simp) ?_
      refine AllReadyH.cons (by simp only [List.getElem?_toArray, List.getElem?_cons_succ, List.getElem?_cons_zero]; rfl) (fun K hK => ?_) (AllReadyH.cons (by simp only [List.getElem?_toArray, List.getElem?_cons_succ, List.getElem?_cons_zero]; rfl) (fun K hK => ?_) AllReadyH.nil)
      · go_simp
        refine hK.out _ _ hHeld (fun hHeld => ?_)
        clear hK K
        try simp only [Act.put, List.setIfInBounds_toArray, List.set_cons_zero, List.set_cons_succ]
        refine wpAnyH_ready (rs := [7]) (by kernel_rfl) (by simp) ?_
        refine AllReadyH.cons (by simp only [List.getElem?_toArray, List.getElem?_cons_succ, List.getElem?_cons_zero]; rfl) (fun K hK => ?_) AllReadyH.nil
        go_simp
        refine hK.out _ _ (show (fun w9 => Bx w9 w.heap.size #[.slice (some ⟨b, off, none⟩) m cc, .slice vo n vc, .int .u64 sd, .int .u32 ck] 45 ∧ w9.cell? ⟨b, off + k, none⟩ = some (.int .u8 x)) _ from ⟨hHeld.1.below ba, cell_on hHeld.2 ba⟩) (fun hHeld => ?_)
        clear hK K hHeld ba r0 r1
        try simp only [Act.put, List.setIfInBounds_toArray, List.set_cons_zero, List.set_cons_succ]
        refine wpAnyH_ready (rs := [8]) (by kernel_rfl) (by simp) ?_
        refine AllReadyH.cons (by simp only [List.getElem?_toArray, List.getElem?_cons_succ, List.getElem?_cons_zero]; rfl) (fun K hK => ?_) AllReadyH.nil
        refine step_append_str rfl _ _ 27 rfl w.heap.size 5 5 (.int .u8 0) 1 1 1 Tryz.underlying27 (by kernel_rfl) rfl (by decide) v k (bv (con.take k)) [.int .u8 x] (0, 0) O3.out rfl (by simp [Value.oneCell']) (by unfold maxLen; have := hM1.out; omega) (by have := hM1.out; omega) B3.out.size rfl rfl ?_
        intro v' w5 hA
        obtain ⟨ao, cap, rfl, -⟩ := own_any_shape hA.own
        have n1 := row_ne_box O3.out X3.out (by decide)
        have n2 := hid (row_ne_box O3.out C3.out (by decide))
        have hb5 := hA.below O3.out B3.out.size
        have X5 := hid (X3.out.on hA.grown (fun e => n1 e.symm))
        have C5 := hid (C3.out.on hA.grown (fun e => n2.out e.symm))
        have B5 := hid (B3.out.trans hb5)
        have O5 := hid hA.own
        have d5 := (hb5.cell hbl.out).trans D4.out
        have D5 := hid d5
        have f0 := C5.out.free 0
        have z0 : w5.cell? ⟨c, 0, none⟩ = some v := by simpa using C5.out.cell 0
        have SG := hid (grown_set w5 c 0 (.slice ao (k + 1) cap))
        clear hA n1 hb5
        refine hK.out _ _ (show (fun w9 => Bx w9 w.heap.size #[.slice (some ⟨b, off, none⟩) m cc, .slice vo n vc, .int .u64 sd, .int .u32 ck] 45 ∧ w9.cell? ⟨b, off + k, none⟩ = some (.int .u8 x)) w5 from ⟨X5.out, d5⟩) (fun hHeld => ?_)
        clear hK K d5
        try simp only [Act.put, List.setIfInBounds_toArray, List.set_cons_zero, List.set_cons_succ]
        refine wpAnyH_take (i := 9) (v := ?_) (by simp only [List.getElem?_toArray, List.getElem?_cons_succ, List.getElem?_cons_zero]; rfl) (by kernel_rfl) (by kernel_rfl) (by kernel_rfl) (by intro _ _ _ h; exact h) (Or.inl ⟨by rfl, ?_⟩) (by assumption) ?_
        rotate_left
        · intro w' hSw; go_simp; (try with_reducible rfl)
        try simp only [Act.put, List.setIfInBounds_toArray, List.set_cons_zero, List.set_cons_succ]
        refine wpAnyH_ready (rs := [10]) (by kernel_rfl) (by simp) ?_
        refine AllReadyH.cons (by simp only [List.getElem?_toArray, List.getElem?_cons_succ, List.getElem?_cons_zero]; rfl) (fun K hK => ?_) AllReadyH.nil
        go_simp
        refine hK.out _ _ (show (fun w9 => Bx w9 w.heap.size #[.slice (some ⟨b, off, none⟩) m cc, .slice vo n vc, .int .u64 sd, .int .u32 ck] 45 ∧ w9.cell? ⟨b, off + k, none⟩ = some (.int .u8 x)) _ from ⟨X5.out.on SG.out (fun e => by simp only [Option.some.injEq] at e; have := hc.out; omega), cell_gr SG.out D5.out (fun e => by simp only [Option.some.injEq] at e; have := hbl.out; have := hc.out; omega)⟩) (fun hHeld => ?_)
        clear hK K hHeld
        try simp only [Act.put, List.setIfInBounds_toArray, List.set_cons_zero, List.set_cons_succ]
        refine wpAnyH_done (by kernel_rfl) ?_ _
        have hk9 : k < 140737488355328 := by have := hM1.out; omega
        have hwp : Hid (wrap64 ((k : Int) + 1) = (k : Int) + 1) := by unfold Hid; unfold wrap64; omega
        have F := hid (C5.out.set 0 (.slice ao (k + 1) cap))
        go_wp2_with fail
        refine ⟨⟨k + 1, .slice ao (k + 1) cap, by omega, by go_num, hid (B5.out.grown SG.out B5.out.size (fun q8 h8 => by simp only [Option.some.injEq] at h8; have := hc.out; omega)), hid (X5.out.on SG.out (fun e => by simp only [Option.some.injEq] at e; have := hc.out; omega)), hid ⟨F.out, ?_, World.ownsRow_nil _ _ _ _, by have := hc.out; omega⟩⟩, by simp only [intOf]; omega⟩
        rw [hsn.out, show (con.take (k + 1)).length = k + 1 by rw [List.length_take]; have := hC.out; omega]
        exact O5.out.kept SG.out (.inr (row_ne_box O5.out C5.out (by decide)))
      · go_simp
        refine hK.out _ _ (show (fun w9 => Bx w9 w.heap.size #[.slice (some ⟨b, off, none⟩) m cc, .slice vo n vc, .int .u64 sd, .int .u32 ck] 45 ∧ w9.cell? ⟨b, off + k, none⟩ = some (.int .u8 x)) _ from ⟨hHeld.1.below ba, cell_on hHeld.2 ba⟩) (fun hHeld => ?_)
        clear hK K
        try simp only [Act.put, List.setIfInBounds_toArray, List.set_cons_zero, List.set_cons_succ]
        refine wpAnyH_ready (rs := [1]) (by kernel_rfl) (by simp) ?_
        refine AllReadyH.cons (by simp only [List.getElem?_toArray, List.getElem?_cons_succ, List.getElem?_cons_zero]; rfl) (fun K hK => ?_) AllReadyH.nil
        go_simp
        refine hK.out _ _ hHeld (fun hHeld => ?_)
        clear hK K hHeld ba r0 r1
        try simp only [Act.put, List.setIfInBounds_toArray, List.set_cons_zero, List.set_cons_succ]
        refine wpAnyH_ready (rs := [8]) (by kernel_rfl) (by simp) ?_
        refine AllReadyH.cons (by simp only [List.getElem?_toArray, List.getElem?_cons_succ, List.getElem?_cons_zero]; rfl) (fun K hK => ?_) AllReadyH.nil
        refine step_append_str rfl _ _ 27 rfl w.heap.size 5 5 (.int .u8 0) 1 1 1 Tryz.underlying27 (by kernel_rfl) rfl (by decide) v k (bv (con.take k)) [.int .u8 x] (0, 0) O3.out rfl (by simp [Value.oneCell']) (by unfold maxLen; have := hM1.out; omega) (by have := hM1.out; omega) B3.out.size rfl rfl ?_
        intro v' w5 hA
        obtain ⟨ao, cap, rfl, -⟩ := own_any_shape hA.own
        have n1 := row_ne_box O3.out X3.out (by decide)
        have n2 := hid (row_ne_box O3.out C3.out (by decide))
        have hb5 := hA.below O3.out B3.out.size
        have X5 := hid (X3.out.on hA.grown (fun e => n1 e.symm))
        have C5 := hid (C3.out.on hA.grown (fun e => n2.out e.symm))
        have B5 := hid (B3.out.trans hb5)
        have O5 := hid hA.own
        have d5 := (hb5.cell hbl.out).trans D4.out
        have D5 := hid d5
        have f0 := C5.out.free 0
        have z0 : w5.cell? ⟨c, 0, none⟩ = some v := by simpa using C5.out.cell 0
        have SG := hid (grown_set w5 c 0 (.slice ao (k + 1) cap))
        clear hA n1 hb5
        refine hK.out _ _ (show (fun w9 => Bx w9 w.heap.size #[.slice (some ⟨b, off, none⟩) m cc, .slice vo n vc, .int .u64 sd, .int .u32 ck] 45 ∧ w9.cell? ⟨b, off + k, none⟩ = some (.int .u8 x)) w5 from ⟨X5.out, d5⟩) (fun hHeld => ?_)
        clear hK K d5
        try simp only [Act.put, List.setIfInBounds_toArray, List.set_cons_zero, List.set_cons_succ]
        refine wpAnyH_take (i := 9) (v := ?_) (by simp only [List.getElem?_toArray, List.getElem?_cons_succ, List.getElem?_cons_zero]; rfl) (by kernel_rfl) (by kernel_rfl) (by kernel_rfl) (by intro _ _ _ h; exact h) (Or.inl ⟨by rfl, ?_⟩) (by assumption) ?_
        rotate_left
        · intro w' hSw; go_simp; (try with_reducible rfl)
        try simp only [Act.put, List.setIfInBounds_toArray, List.set_cons_zero, List.set_cons_succ]
        refine wpAnyH_ready (rs := [10]) (by kernel_rfl) (by simp) ?_
        refine AllReadyH.cons (by simp only [List.getElem?_toArray, List.getElem?_cons_succ, List.getElem?_cons_zero]; rfl) (fun K hK => ?_) AllReadyH.nil
        go_simp
        refine hK.out _ _ (show (fun w9 => Bx w9 w.heap.size #[.slice (some ⟨b, off, none⟩) m cc, .slice vo n vc, .int .u64 sd, .int .u32 ck] 45 ∧ w9.cell? ⟨b, off + k, none⟩ = some (.int .u8 x)) _ from ⟨X5.out.on SG.out (fun e => by simp only [Option.some.injEq] at e; have := hc.out; omega), cell_gr SG.out D5.out (fun e => by simp only [Option.some.injEq] at e; have := hbl.out; have := hc.out; omega)⟩) (fun hHeld => ?_)
        clear hK K hHeld
        try simp only [Act.put, List.setIfInBounds_toArray, List.set_cons_zero, List.set_cons_succ]
        refine wpAnyH_done (by kernel_rfl) ?_ _
        have hk9 : k < 140737488355328 := by have := hM1.out; omega
        have hwp : Hid (wrap64 ((k : Int) + 1) = (k : Int) + 1) := by unfold Hid; unfold wrap64; omega
        have F := hid (C5.out.set 0 (.slice ao (k + 1) cap))
        go_wp2_with fail
        refine ⟨⟨k + 1, .slice ao (k + 1) cap, by omega, by go_num, hid (B5.out.grown SG.out B5.out.size (fun q8 h8 => by simp only [Option.some.injEq] at h8; have := hc.out; omega)), hid (X5.out.on SG.out (fun e => by simp only [Option.some.injEq] at e; have := hc.out; omega)), hid ⟨F.out, ?_, World.ownsRow_nil _ _ _ _, by have := hc.out; omega⟩⟩, by simp only [intOf]; omega⟩
        rw [hsn.out, show (con.take (k + 1)).length = k + 1 by rw [List.length_take]; have := hC.out; omega]
        exact O5.out.kept SG.out (.inr (row_ne_box O5.out C5.out (by decide)))
    · obtain rfl : m = k := by omega
      rename_i wr
      have hT := hid (List.take_of_length_le (show con.length ≤ m by rw [hC.out]; exact Nat.le_refl _))
      have P3 := P2.out
      rw [hT.out] at P3
      have P4 := hid P3
      have e0 : wr.cell? ⟨w.heap.size, 0, none⟩ = some (.slice co m cc) := by simpa using X2.out.cell 0
      clear P2 P3 hT hY hk hlt
      go_wp2_with fail
      clear e0
      generalize v = va at *
      go_loopw [5] (fun i wr => ∃ (k : Nat) (v : Value), k ≤ n ∧ i = .int .i64 k ∧ Hid (Below w.heap.size w wr) ∧ Hid (Bx wr w.heap.size #[.slice co m cc, .slice vo n vc, .int .u64 sd, .int .u32 ck] 45) ∧ Hid (Cp wr w.heap.size c va v con (l.take k) sd ck)) (fun i _ => n - (intOf i).toNat)
      case atStart => exact ⟨0, _, by omega, rfl, B2, X2, P4⟩
      case round =>
        clear B2 X2 P4
        obtain ⟨k, v, hk, rfl, B2, X2, P2⟩ := hrel
        rename_i wr
        by_cases hlt : k < n
        · obtain ⟨b, off, hvo, hcb⟩ := hV.out.cell
          obtain rfl := hvo.resolve_left (by have := hN.out; omega)
          have d0 := hcb k (by have := hN.out; omega)
          have hbl : Hid (b < w.heap.size) := World.block_lt_of_cell? w _ d0.1
          have d1 := (B2.out.cell hbl.out).trans d0.1
          have d1b := (B2.out.cell hbl.out).trans d0.2
          have hsn := hid (prs_snoc l k (by have := hN.out; omega))
          generalize nmA l k = s at *
          generalize wdA l k = x at *
          clear d0 hvo hcb
          have e0 : wr.cell? ⟨w.heap.size, 1, none⟩ = some (.slice (some ⟨b, off, none⟩) n vc) := by simpa using X2.out.cell 1
          have hlk : (l.take k).length = k := by rw [List.length_take]; have := hN.out; omega
          have ob := P2.out.ov
          rw [hlk] at ob
          have Ob := hid ob
          have Ov := hid P2.out.ob
          have Cb := hid P2.out.bx
          clear ob P2
          go_wp2_with fail
          clear e0
          have bd := (Below.refl wr.heap.size wr).drew
          have d2 := cell_on d1 bd
          have d2b := cell_on d1b bd
          have B3 := hid (B2.out.trans (bd.mono B2.out.size))
          have X3 := hid (X2.out.below bd)
          have C3 := hid (Cb.out.below bd)
          have O3 := hid Ob.out.drew
          have V3 := hid Ov.out.drew
          refine wp_region_held_drew (S := (fun w9 => Bx w9 w.heap.size #[.slice co m cc, .slice (some ⟨b, off, none⟩) n vc, .int .u64 sd, .int .u32 ck] 45 ∧ w9.cell? ⟨b, off + k * 2, none⟩ = some (.string s) ∧ w9.cell? ⟨b, off + k * 2 + 1, none⟩ = some (.int .u32 x))) (by kernel_rfl) ⟨X3.out, d2, d2b⟩ (fun hHeld => ?_)
          clear d1 d1b d2 d2b bd B2 X2 Cb Ob Ov
          generalize wr.drew = w4 at *
          refine wpAnyH_take (i := 0) (v := ?_) (by simp only [List.getElem?_toArray, List.getElem?_cons_succ, List.getElem?_cons_zero]; rfl) (by kernel_rfl) (by kernel_rfl) (by kernel_rfl) (by intro _ _ _ h; exact h) (Or.inl ⟨by rfl, ?_⟩) (by assumption) ?_
          rotate_left
          · intro w' hSw; go_simp; (try with_reducible rfl)
          try simp only [Act.put, List.setIfInBounds_toArray, List.set_cons_zero, List.set_cons_succ]
          refine wpAnyH_take (i := 2) (v := ?_) (by simp only [List.getElem?_toArray, List.getElem?_cons_succ, List.getElem?_cons_zero]; rfl) (by kernel_rfl) (by kernel_rfl) (by kernel_rfl) (by intro _ _ _ h; exact h) (Or.inl ⟨by rfl, ?_⟩) (by assumption) ?_
          rotate_left
          · intro w' hSw; go_simp; (try with_reducible rfl)
          try simp only [Act.put, List.setIfInBounds_toArray, List.set_cons_zero, List.set_cons_succ]
          refine wpAnyH_take (i := 3) (v := ?_) (by simp only [List.getElem?_toArray, List.getElem?_cons_succ, List.getElem?_cons_zero]; rfl) (by kernel_rfl) (by kernel_rfl) (by kernel_rfl) (by intro _ _ _ h; exact h) (Or.inl ⟨by rfl, ?_⟩) (by assumption) ?_
          rotate_left
          · intro w' hSw; have q1 := hSw.1.cell 1; simp at q1; go_simp; (try with_reducible rfl)
          try simp only [Act.put, List.setIfInBounds_toArray, List.set_cons_zero, List.set_cons_succ]
          refine wpAnyH_take (i := 4) (v := ?_) (by simp only [List.getElem?_toArray, List.getElem?_cons_succ, List.getElem?_cons_zero]; rfl) (by kernel_rfl) (by kernel_rfl) (by kernel_rfl) (by intro _ _ _ h; exact h) (Or.inl ⟨by rfl, ?_⟩) (by assumption) ?_
          rotate_left
          · intro w' hSw; go_simp; (try with_reducible rfl)
          try simp only [Act.put, List.setIfInBounds_toArray, List.set_cons_zero, List.set_cons_succ]
          refine wpAnyH_take (i := 5) (v := ?_) (by simp only [List.getElem?_toArray, List.getElem?_cons_succ, List.getElem?_cons_zero]; rfl) (by kernel_rfl) (by kernel_rfl) (by kernel_rfl) (by intro _ _ _ h; exact h) (Or.inl ⟨by rfl, ?_⟩) (by assumption) ?_
          rotate_left
          · intro w' hSw; go_simp; (try with_reducible rfl)
          try simp only [Act.put, List.setIfInBounds_toArray, List.set_cons_zero, List.set_cons_succ]
          refine wpAnyH_take (i := 6) (v := ?_) (by simp only [List.getElem?_toArray, List.getElem?_cons_succ, List.getElem?_cons_zero]; rfl) (by kernel_rfl) (by kernel_rfl) (by kernel_rfl) (by intro _ _ _ h; exact h) (Or.inl ⟨by rfl, ?_⟩) (by assumption) ?_
          rotate_left
          · intro w' hSw; have q2 := hSw.2.1; have q3 := hSw.2.2; go_simp; (try with_reducible rfl)
          try simp only [Act.put, List.setIfInBounds_toArray, List.set_cons_zero, List.set_cons_succ]
          have ba := (Below.refl w4.heap.size w4).alloc (Nat.le_refl _) (.cells #[.string s, .int .u32 x] 77)
          have D4 := hid hHeld.2
          have r0 : w4.cell? ⟨c, 1, none⟩ = some v := by simpa using C3.out.cell 1
          have r1 := cell_on r0 ba
          refine wpAnyH_ready (rs := [1, 7]) (by kernel_rfl) (by simp) ?_
          refine AllReadyH.cons (by simp only [List.getElem?_toArray, List.getElem?_cons_succ, List.getElem?_cons_zero]; rfl) (fun K hK => ?_) (AllReadyH.cons (by simp only [List.getElem?_toArray, List.getElem?_cons_succ, List.getElem?_cons_zero]; rfl) (fun K hK => ?_) AllReadyH.nil)
          · go_simp
            refine hK.out _ _ hHeld (fun hHeld => ?_)
            clear hK K
            try simp only [Act.put, List.setIfInBounds_toArray, List.set_cons_zero, List.set_cons_succ]
            refine wpAnyH_ready (rs := [7]) (by kernel_rfl) (by simp) ?_
            refine AllReadyH.cons (by simp only [List.getElem?_toArray, List.getElem?_cons_succ, List.getElem?_cons_zero]; rfl) (fun K hK => ?_) AllReadyH.nil
            go_simp
            refine hK.out _ _ (show (fun w9 => Bx w9 w.heap.size #[.slice co m cc, .slice (some ⟨b, off, none⟩) n vc, .int .u64 sd, .int .u32 ck] 45 ∧ w9.cell? ⟨b, off + k * 2, none⟩ = some (.string s) ∧ w9.cell? ⟨b, off + k * 2 + 1, none⟩ = some (.int .u32 x)) _ from ⟨hHeld.1.below ba, cell_on hHeld.2.1 ba, cell_on hHeld.2.2 ba⟩) (fun hHeld => ?_)
            clear hK K hHeld ba r0 r1
            try simp only [Act.put, List.setIfInBounds_toArray, List.set_cons_zero, List.set_cons_succ]
            refine wpAnyH_ready (rs := [8]) (by kernel_rfl) (by simp) ?_
            refine AllReadyH.cons (by simp only [List.getElem?_toArray, List.getElem?_cons_succ, List.getElem?_cons_zero]; rfl) (fun K hK => ?_) AllReadyH.nil
            refine step_append_str rfl _ _ 43 rfl w.heap.size 77 77 (.agg #[.string ⟨#[]⟩, .int .u32 0]) 2 24 1 Tryz.underlying43 (by kernel_rfl) rfl (by decide) v k (prs (l.take k)) [.string s, .int .u32 x] (0, 0) O3.out rfl (by simp [Value.oneCell']) (by unfold maxLen; have := hM2.out; omega) (by have := hM2.out; omega) B3.out.size rfl rfl ?_
            intro v' w5 hA
            obtain ⟨ao, cap, rfl, -⟩ := own_any_shape hA.own
            have n1 := row_ne_box O3.out X3.out (by decide)
            have n2 := hid (row_ne_box O3.out C3.out (by decide))
            have hb5 := hA.below O3.out B3.out.size
            have X5 := hid (X3.out.on hA.grown (fun e => n1 e.symm))
            have C5 := hid (C3.out.on hA.grown (fun e => n2.out e.symm))
            have B5 := hid (B3.out.trans hb5)
            have O5 := hid hA.own
            have V5 := hid (V3.out.kept hA.grown (row_ne_row V3.out O3.out (by decide)))
            have d5 := (show w5.cell? ⟨b, off + k * 2, none⟩ = some (.string s) ∧ w5.cell? ⟨b, off + k * 2 + 1, none⟩ = some (.int .u32 x) from ⟨(hb5.cell hbl.out).trans D4.out.1, (hb5.cell hbl.out).trans D4.out.2⟩)
            have D5 := hid d5
            have f0 := C5.out.free 1
            have z0 : w5.cell? ⟨c, 1, none⟩ = some v := by simpa using C5.out.cell 1
            have SG := hid (grown_set w5 c 1 (.slice ao (k + 1) cap))
            clear hA n1 hb5
            refine hK.out _ _ (show (fun w9 => Bx w9 w.heap.size #[.slice co m cc, .slice (some ⟨b, off, none⟩) n vc, .int .u64 sd, .int .u32 ck] 45 ∧ w9.cell? ⟨b, off + k * 2, none⟩ = some (.string s) ∧ w9.cell? ⟨b, off + k * 2 + 1, none⟩ = some (.int .u32 x)) w5 from ⟨X5.out, d5⟩) (fun hHeld => ?_)
            clear hK K d5
            try simp only [Act.put, List.setIfInBounds_toArray, List.set_cons_zero, List.set_cons_succ]
            refine wpAnyH_take (i := 9) (v := ?_) (by simp only [List.getElem?_toArray, List.getElem?_cons_succ, List.getElem?_cons_zero]; rfl) (by kernel_rfl) (by kernel_rfl) (by kernel_rfl) (by intro _ _ _ h; exact h) (Or.inl ⟨by rfl, ?_⟩) (by assumption) ?_
            rotate_left
            · intro w' hSw; go_simp; (try with_reducible rfl)
            try simp only [Act.put, List.setIfInBounds_toArray, List.set_cons_zero, List.set_cons_succ]
            refine wpAnyH_ready (rs := [10]) (by kernel_rfl) (by simp) ?_
            refine AllReadyH.cons (by simp only [List.getElem?_toArray, List.getElem?_cons_succ, List.getElem?_cons_zero]; rfl) (fun K hK => ?_) AllReadyH.nil
            go_simp
            refine hK.out _ _ (show (fun w9 => Bx w9 w.heap.size #[.slice co m cc, .slice (some ⟨b, off, none⟩) n vc, .int .u64 sd, .int .u32 ck] 45 ∧ w9.cell? ⟨b, off + k * 2, none⟩ = some (.string s) ∧ w9.cell? ⟨b, off + k * 2 + 1, none⟩ = some (.int .u32 x)) _ from ⟨X5.out.on SG.out (fun e => by simp only [Option.some.injEq] at e; have := hc.out; omega), cell_gr SG.out D5.out.1 (fun e => by simp only [Option.some.injEq] at e; have := hbl.out; have := hc.out; omega), cell_gr SG.out D5.out.2 (fun e => by simp only [Option.some.injEq] at e; have := hbl.out; have := hc.out; omega)⟩) (fun hHeld => ?_)
            clear hK K hHeld
            try simp only [Act.put, List.setIfInBounds_toArray, List.set_cons_zero, List.set_cons_succ]
            refine wpAnyH_done (by kernel_rfl) ?_ _
            have F := hid (C5.out.set 1 (.slice ao (k + 1) cap))
            have hk9 : k < 140737488355328 := by have := hM2.out; omega
            go_wp2_with fail
            refine ⟨⟨k + 1, .slice ao (k + 1) cap, by omega, by go_num, hid (B5.out.grown SG.out B5.out.size (fun q8 h8 => by simp only [Option.some.injEq] at h8; have := hc.out; omega)), hid (X5.out.on SG.out (fun e => by simp only [Option.some.injEq] at e; have := hc.out; omega)), hid ⟨F.out, V5.out.kept SG.out (.inr (row_ne_box V5.out C5.out (by decide))), ?_, by have := hc.out; omega⟩⟩, by simp only [intOf]; omega⟩
            rw [hsn.out, show (l.take (k + 1)).length = k + 1 by rw [List.length_take]; have := hN.out; omega]
            exact O5.out.kept SG.out (.inr (row_ne_box O5.out C5.out (by decide)))
          · go_simp
            refine hK.out _ _ (show (fun w9 => Bx w9 w.heap.size #[.slice co m cc, .slice (some ⟨b, off, none⟩) n vc, .int .u64 sd, .int .u32 ck] 45 ∧ w9.cell? ⟨b, off + k * 2, none⟩ = some (.string s) ∧ w9.cell? ⟨b, off + k * 2 + 1, none⟩ = some (.int .u32 x)) _ from ⟨hHeld.1.below ba, cell_on hHeld.2.1 ba, cell_on hHeld.2.2 ba⟩) (fun hHeld => ?_)
            clear hK K
            try simp only [Act.put, List.setIfInBounds_toArray, List.set_cons_zero, List.set_cons_succ]
            refine wpAnyH_ready (rs := [1]) (by kernel_rfl) (by simp) ?_
            refine AllReadyH.cons (by simp only [List.getElem?_toArray, List.getElem?_cons_succ, List.getElem?_cons_zero]; rfl) (fun K hK => ?_) AllReadyH.nil
            go_simp
            refine hK.out _ _ hHeld (fun hHeld => ?_)
            clear hK K hHeld ba r0 r1
            try simp only [Act.put, List.setIfInBounds_toArray, List.set_cons_zero, List.set_cons_succ]
            refine wpAnyH_ready (rs := [8]) (by kernel_rfl) (by simp) ?_
            refine AllReadyH.cons (by simp only [List.getElem?_toArray, List.getElem?_cons_succ, List.getElem?_cons_zero]; rfl) (fun K hK => ?_) AllReadyH.nil
            refine step_append_str rfl _ _ 43 rfl w.heap.size 77 77 (.agg #[.string ⟨#[]⟩, .int .u32 0]) 2 24 1 Tryz.underlying43 (by kernel_rfl) rfl (by decide) v k (prs (l.take k)) [.string s, .int .u32 x] (0, 0) O3.out rfl (by simp [Value.oneCell']) (by unfold maxLen; have := hM2.out; omega) (by have := hM2.out; omega) B3.out.size rfl rfl ?_
            intro v' w5 hA
            obtain ⟨ao, cap, rfl, -⟩ := own_any_shape hA.own
            have n1 := row_ne_box O3.out X3.out (by decide)
            have n2 := hid (row_ne_box O3.out C3.out (by decide))
            have hb5 := hA.below O3.out B3.out.size
            have X5 := hid (X3.out.on hA.grown (fun e => n1 e.symm))
            have C5 := hid (C3.out.on hA.grown (fun e => n2.out e.symm))
            have B5 := hid (B3.out.trans hb5)
            have O5 := hid hA.own
            have V5 := hid (V3.out.kept hA.grown (row_ne_row V3.out O3.out (by decide)))
            have d5 := (show w5.cell? ⟨b, off + k * 2, none⟩ = some (.string s) ∧ w5.cell? ⟨b, off + k * 2 + 1, none⟩ = some (.int .u32 x) from ⟨(hb5.cell hbl.out).trans D4.out.1, (hb5.cell hbl.out).trans D4.out.2⟩)
            have D5 := hid d5
            have f0 := C5.out.free 1
            have z0 : w5.cell? ⟨c, 1, none⟩ = some v := by simpa using C5.out.cell 1
            have SG := hid (grown_set w5 c 1 (.slice ao (k + 1) cap))
            clear hA n1 hb5
            refine hK.out _ _ (show (fun w9 => Bx w9 w.heap.size #[.slice co m cc, .slice (some ⟨b, off, none⟩) n vc, .int .u64 sd, .int .u32 ck] 45 ∧ w9.cell? ⟨b, off + k * 2, none⟩ = some (.string s) ∧ w9.cell? ⟨b, off + k * 2 + 1, none⟩ = some (.int .u32 x)) w5 from ⟨X5.out, d5⟩) (fun hHeld => ?_)
            clear hK K d5
            try simp only [Act.put, List.setIfInBounds_toArray, List.set_cons_zero, List.set_cons_succ]
            refine wpAnyH_take (i := 9) (v := ?_) (by simp only [List.getElem?_toArray, List.getElem?_cons_succ, List.getElem?_cons_zero]; rfl) (by kernel_rfl) (by kernel_rfl) (by kernel_rfl) (by intro _ _ _ h; exact h) (Or.inl ⟨by rfl, ?_⟩) (by assumption) ?_
            rotate_left
            · intro w' hSw; go_simp; (try with_reducible rfl)
            try simp only [Act.put, List.setIfInBounds_toArray, List.set_cons_zero, List.set_cons_succ]
            refine wpAnyH_ready (rs := [10]) (by kernel_rfl) (by simp) ?_
            refine AllReadyH.cons (by simp only [List.getElem?_toArray, List.getElem?_cons_succ, List.getElem?_cons_zero]; rfl) (fun K hK => ?_) AllReadyH.nil
            go_simp
            refine hK.out _ _ (show (fun w9 => Bx w9 w.heap.size #[.slice co m cc, .slice (some ⟨b, off, none⟩) n vc, .int .u64 sd, .int .u32 ck] 45 ∧ w9.cell? ⟨b, off + k * 2, none⟩ = some (.string s) ∧ w9.cell? ⟨b, off + k * 2 + 1, none⟩ = some (.int .u32 x)) _ from ⟨X5.out.on SG.out (fun e => by simp only [Option.some.injEq] at e; have := hc.out; omega), cell_gr SG.out D5.out.1 (fun e => by simp only [Option.some.injEq] at e; have := hbl.out; have := hc.out; omega), cell_gr SG.out D5.out.2 (fun e => by simp only [Option.some.injEq] at e; have := hbl.out; have := hc.out; omega)⟩) (fun hHeld => ?_)
            clear hK K hHeld
            try simp only [Act.put, List.setIfInBounds_toArray, List.set_cons_zero, List.set_cons_succ]
            refine wpAnyH_done (by kernel_rfl) ?_ _
            have F := hid (C5.out.set 1 (.slice ao (k + 1) cap))
            have hk9 : k < 140737488355328 := by have := hM2.out; omega
            go_wp2_with fail
            refine ⟨⟨k + 1, .slice ao (k + 1) cap, by omega, by go_num, hid (B5.out.grown SG.out B5.out.size (fun q8 h8 => by simp only [Option.some.injEq] at h8; have := hc.out; omega)), hid (X5.out.on SG.out (fun e => by simp only [Option.some.injEq] at e; have := hc.out; omega)), hid ⟨F.out, V5.out.kept SG.out (.inr (row_ne_box V5.out C5.out (by decide))), ?_, by have := hc.out; omega⟩⟩, by simp only [intOf]; omega⟩
            rw [hsn.out, show (l.take (k + 1)).length = k + 1 by rw [List.length_take]; have := hN.out; omega]
            exact O5.out.kept SG.out (.inr (row_ne_box O5.out C5.out (by decide)))
        · obtain rfl : n = k := by omega
          rename_i wr
          have hT := hid (List.take_of_length_le (show l.length ≤ n by rw [hN.out]; exact Nat.le_refl _))
          have P3 := P2.out
          rw [hT.out] at P3
          have P4 := hid P3
          have e0 : wr.cell? ⟨w.heap.size, 1, none⟩ = some (.slice vo n vc) := by simpa using X2.out.cell 1
          clear P2 P3 hT hk hlt
          go_wp2_with fail
          go_ret
          exact ⟨c, va, v, rfl, P4.out, B2.out⟩

end Go.Proofs.YtmjholcpajfldaaGreatDoor
