/- Walks and plain laws, merged: IntV. No condition. -/
import Derived.Test.YtlabadkfkbenoaaGreatDoorKn39
namespace Go.Proofs.YtlabadkfkbenoaaGreatDoor
open Go.RowKit
set_option linter.unusedVariables false
set_option linter.unusedSimpArgs false
set_option maxRecDepth 100000
section
open Go.Shelf
/-- one statement of a row -/
structure StmK (w : World) (b q : Nat) (t : Int) (h : SH) (vx vb ve : Value) : Prop where
 c0 : w.cell? ⟨b, q, none⟩ = some (.int .i64 t)
 c1 : w.cell? ⟨b, q + 1, none⟩ = some (.int .u8 h.kind)
 c2 : w.cell? ⟨b, q + 2, none⟩ = some (.string h.name)
 c3 : w.cell? ⟨b, q + 3, none⟩ = some (.int .u8 h.type)
 c4 : w.cell? ⟨b, q + 4, none⟩ = some (.string h.sign)
 c5 : w.cell? ⟨b, q + 5, none⟩ = some vx
 c6 : w.cell? ⟨b, q + 6, none⟩ = some vb
 c7 : w.cell? ⟨b, q + 7, none⟩ = some ve
theorem StmK.sub {w w' : World} {b q : Nat} {t : Int} {h : SH} {vx vb ve : Value} (k : StmK w b q t h vx vb ve) (hc : Cells w w') : StmK w' b q t h vx vb ve := ⟨hc _ _ k.c0, hc _ _ k.c1, hc _ _ k.c2, hc _ _ k.c3, hc _ _ k.c4, hc _ _ k.c5, hc _ _ k.c6, hc _ _ k.c7⟩
theorem SlS.kid {w : World} {l : Sts} {v : Value} (hl : SlS w false none l v) (i : Nat) (h : SH) (x : Exs) (b e : Sts) (ha : l.toL[i]? = some (h, x, b, e)) :
  ∃ bk off cap t xa xc ba bc ea ec, v = .slice (some ⟨bk, off, none⟩) l.len cap ∧ StmK w bk (off + i * 8) t h (.slice xa x.len xc) (.slice ba b.len bc) (.slice ea e.len ec) ∧ SlE w false none x (.slice xa x.len xc) ∧ SlS w false none b (.slice ba b.len bc) ∧ SlS w false none e (.slice ea e.len ec) := by
 obtain ⟨ka, kb, koff, kcap, rfl, y2, y3⟩ := SlS_iff.1 hl
 obtain ⟨hi, e1⟩ := List.getElem?_eq_some_iff.1 ha
 have y4 := y3 i hi
 rw [e1] at y4
 obtain ⟨⟨⟨t, z0, _⟩, z1, z2, z3, z4⟩, ⟨vx, z5, hx⟩, ⟨vb, z6, hb⟩, ⟨ve, z7, he⟩⟩ := y4
 have hk : ka = some ⟨kb, koff, none⟩ := by
  rcases y2 with ⟨q, _⟩ | ⟨q, _⟩
  ·omega
  ·exact q
 subst hk
 obtain ⟨xa, xc, rfl⟩ := hx.shape'
 obtain ⟨ba, bc, rfl⟩ := hb.shape'
 obtain ⟨ea, ec, rfl⟩ := he.shape'
 exact ⟨kb, koff, kcap, t, xa, xc, ba, bc, ea, ec, by rw [Sts.toL_len], ⟨z0, z1, z2, z3, z4, z5, z6, z7⟩, hx, hb, he⟩
/-- what is shown of lists with fuel k -/
def WLi (p : Pt) (cf : Cf) (u : UT) (n : Nat) (shp : List Nat) (k : Nat) : Prop :=
 ∀ (d : Nat) (m : MS) (ve : EvS) (F : Nat) (fb : List BSc) (g cap : Nat) (ms : List Nat) (l : Sts) (v : Value) (ret : Int) (lp : Nat) (c' : Scope) (w : World), okS l = true → l.Wf → chS cf.vs cf.cs ret l (tysF fb) [] lp = .ok c' → SlS (onlyW w (oldB p.B)) false none l v → fb.length + l.sz ≤ 99999990 →
  CtX p cf u n shp d m ve F fb g cap ms w → (evl cf k).L d (bareF fb) l m ≠ .lost →
  Calls Tryz.prog 123 #[.pointer (some ⟨p.M, 0, none⟩), .pointer (some ⟨F, 0, none⟩), v] w (PostS p cf u n shp d F ve (FS F g ms fb) (fun q => U q.2.1) (fun q => q.2.2) (fun q => .returned (.tuple #[.int .i64 q.1, .int .u32 q.2.1])) ((evl cf k).L d (bareF fb) l m) w)
/-- .. of loops -/
def WWh (p : Pt) (cf : Cf) (u : UT) (n : Nat) (shp : List Nat) (k : Nat) : Prop :=
 ∀ (d : Nat) (m : MS) (ve : EvS) (F : Nat) (fb : List BSc) (g cap : Nat) (ms : List Nat) (t : Int) (h : SH) (x : Exs) (b : Sts) (vx vb vz : Value) (a : EH × Exs) (ty ret : Int) (lp : Nat) (c' : Scope) (w : World), x.toL[0]? = some a → XT cf (tysF fb) a.1 a.2 ty → a.1.Wf → a.2.Wf → okS b = true → b.Wf → chS cf.vs cf.cs ret b (tysF fb) [] lp = .ok c' →
  SlE (onlyW w (oldB p.B)) false none x vx → SlS (onlyW w (oldB p.B)) false none b vb → (∃ l, SlS (onlyW w (oldB p.B)) false none l vz) → fb.length + b.sz ≤ 99999990 →
  CtX p cf u n shp d m ve F fb g cap ms w → (evl cf k).W d (bareF fb) a.1 a.2 b m ≠ .lost →
  Calls Tryz.prog 182 #[.pointer (some ⟨p.M, 0, none⟩), .pointer (some ⟨F, 0, none⟩), aggS t h vx vb vz] w (PostS p cf u n shp d F ve (FS F g ms fb) (fun q => U q.2.1) (fun q => q.2.2) (fun q => .returned (.tuple #[.int .i64 q.1, .int .u32 q.2.1])) ((evl cf k).W d (bareF fb) a.1 a.2 b m) w)
/-- .. of statements, whose lists have fuel k -/
def WSt (p : Pt) (cf : Cf) (u : UT) (n : Nat) (shp : List Nat) (k : Nat) : Prop :=
 ∀ (d : Nat) (m : MS) (ve : EvS) (F : Nat) (fb : List BSc) (g cap : Nat) (ms : List Nat) (t : Int) (h : SH) (x : Exs) (b e : Sts) (vx vb vz : Value) (ss : List Scope) (c c1 : Scope) (ret : Int) (lp : Nat) (w : World), tysF fb = ss ++ [c] → okSH h x.len x.fk b.len e.len = true → okE x = true → okS b = true → okS e = true → x.Wf → b.Wf → e.Wf →
  stF cf.vs cf.cs ret h x (unitE (chS cf.vs cf.cs ret b (ss ++ [c]) [] lp)) (unitE (chS cf.vs cf.cs ret e (ss ++ [c]) [] lp)) (unitE (chS cf.vs cf.cs ret b (ss ++ [c]) [] (lp + 1))) ss c lp = .ok c1 →
  SlE (onlyW w (oldB p.B)) false none x vx → SlS (onlyW w (oldB p.B)) false none b vb → SlS (onlyW w (oldB p.B)) false none e vz → fb.length + (b.sz + e.sz) ≤ 99999990 → CtX p cf u n shp d m ve F fb g cap ms w → stmtV cf (evl cf k) d (bareF fb) h x b e m ≠ .lost →
  Calls Tryz.prog 149 #[.pointer (some ⟨p.M, 0, none⟩), .pointer (some ⟨F, 0, none⟩), aggS t h vx vb vz] w (PostS p cf u n shp d F ve (FS F g ms fb) (fun q => U q.2.1) (fun q => q.2.2) (fun q => .returned (.tuple #[.int .i64 q.1, .int .u32 q.2.1])) (stmtV cf (evl cf k) d (bareF fb) h x b e m) w)
/-- the last scope -/
theorem tys_last {fb : List BSc} {ss : List Scope} {c : Scope} (h : tysF fb = ss ++ [c]) : ∃ fb0 cb, fb = fb0 ++ [cb] ∧ tysF fb0 = ss ∧ (cb.map fun x => (x.1, x.2.1.1)) = c := by
 rcases List.eq_nil_or_concat fb with rfl | ⟨fb0, cb, rfl⟩
 ·simp [tysF] at h
 ·simp only [List.concat_eq_append, tysF, List.map_append, List.map_cons, List.map_nil] at h ⊢
  obtain ⟨h1, h2⟩ := List.append_inj' h rfl
  exact ⟨fb0, cb, rfl, h1, by simpa using h2⟩
theorem list_drop {α : Type} {l r : List α} {a : α} {j : Nat} (h : a :: r = l.drop j) : l[j]? = some a ∧ r = l.drop (j + 1) := by
 have h1 : (l.drop j)[0]? = some a := by rw [← h]; rfl
 have h2 : (l.drop j).drop 1 = r := by rw [← h]; rfl
 rw [List.getElem?_drop] at h1
 rw [List.drop_drop] at h2
 exact ⟨by simpa using h1, h2.symm⟩
theorem tysF_len (fb : List BSc) : (tysF fb).length = fb.length := by simp [tysF]
theorem bareF_app (fb : List BSc) (c : BSc) : bareF (fb ++ [c]) = bareF fb ++ [bareSc c] := by simp [bareF]
set_option maxHeartbeats 32000000 in
theorem list123 (p : Pt) (cf : Cf) (u : UT) (n : Nat) (shp : List Nat) (k : Nat) (HS : Hid (WSt p cf u n shp k)) : WLi p cf u n shp (k + 1) := by
 intro d m ve F fb g cap ms l v ret lp c' w ho hwf hch hv hsz hX hnl
 obtain ⟨ka, kc, rfl⟩ := hv.shape'
 obtain ⟨R, hR⟩ : ∃ z, z = PostS p cf u n shp d F ve (FS F g ms fb) (fun q => U q.2.1) (fun q => q.2.2) (fun q => Ending.returned (.tuple #[.int .i64 q.1, .int .u32 q.2.1])) ((evl cf (k + 1)).L d (bareF fb) l m) w := ⟨_, rfl⟩
 rw [← hR]
 have HR := hid hR
 have hh := hid (show (evl cf (k + 1)).L d (bareF fb) l m = (stmtsV cf (evl cf k) d l (bareF fb ++ [[]]) m).bind fun q m => .ok (q.1, q.2.1, q.2.2.dropLast) m from rfl)
 have hnl0 := hid (show stmtsV cf (evl cf k) d l (bareF fb ++ [[]]) m ≠ .lost from Out.of_bind (by rw [← hh.out]; exact hnl))
 obtain ⟨w1, hw1⟩ : ∃ x : World, x = w.alloc (.map #[] 0) := ⟨_, rfl⟩
 have hmm : (Instr.makeMap 210 none).run Tryz.prog w = .ok (.map (some w.heap.size)) w1 := by rw [hw1]; exact run_makeMap 210 w
 have p2 := hX.c.fr.box.cell 0
 simp at p2
 have hb1 : Below w.heap.size w w1 := by rw [hw1]; exact (Below.refl _ w).alloc (Nat.le_refl _) _
 have hr1 := hid (ownsRow_at hX.c.fr.row hb1)
 have hX1 := hid (hX.below hb1)
 have hn1 : n ≤ w1.heap.size := Nat.le_trans hX.c.me.size hb1.size
 have X0 := hid hX
 have HW1 := hid hw1
 obtain ⟨len, hlen⟩ : ∃ z, z = l.len := ⟨_, rfl⟩
 rw [← hlen] at hv ⊢
 have HLEN := hid hlen
 have hll := l.len_le
 have hfl : fb.length ≤ 99999990 := by omega
 have hkl : len ≤ 99999990 := by omega
 obtain ⟨fl, hfle⟩ : ∃ z, z = fb.length := ⟨_, rfl⟩
 have HFL := hid hfle
 rw [← hfle] at p2 hr1 hfl hsz
 have HSZ := hid hsz
 have KT : Hid (∀ wr, Kpt (fun b => p.TE ve b ∨ FS F g ms fb b) w.heap.size w wr → SlS (onlyW wr (oldB p.B)) false none l (.slice ka len kc)) := hid fun wr hk => hv.sub (hX.oldKS hk)
 have OK := hid (And.intro ho (And.intro hwf hch))
 have HLL := hid hll
 clear hR hw1 hX hb1 hv ho hwf hch hnl hlen hll hfle hsz
 go_enter Tryz.func123, Tryz.ntmps123
 go_wp2_with (at_builtin; go_must (refine wpList_append_str rfl _ _ 211 rfl n 210 210 (.map none) 1 8 1 Tryz.underlying211 (by kernel_rfl) rfl (by decide) _ fl _ [_] (0, 0) hr1.out rfl (by simp [Value.oneCell']) (by unfold maxLen; omega) (by omega) hn1 rfl rfl ?_); intro v' w' hA; obtain ⟨g', cap', rfl⟩ := ownsRow_succ' hA.own; have hx2 := hX1.out.c.fr.box.on hA.grown (hX1.out.c.fr.box.not_row hr1.out (by decide)); have q2 := hx2.cell 0; simp at q2; have f2 := hx2.free 0; have hA' := hid hA; clear hA hx2)
 have hA2 := hA'.out
 rw [HFL.out] at hA2
 obtain ⟨g2, cap2, hv2, hX2, hK2⟩ := X0.out.push HW1.out hA2 (by have := HFL.out; omega)
 cases hv2
 rw [← HFL.out] at hX2 hK2
 have HX2 := hid hX2
 have HK2 := hid hK2
 have LF := hid (show ∀ (fb1 : List BSc) (cty : Scope), tysF fb1 = tysF fb ++ [cty] → fb1.length = fl + 1 from fun fb1 cty h => by
  have := congrArg List.length h
  rw [tysF_len, List.length_append, tysF_len] at this
  have h2 := HFL.out
  simp at this
  omega)
 clear hX2 hK2 hA2 hA' hr1 hX1 HW1 hmm p2 hn1
 go_loopw [30] (fun i wr => ∃ (j : Nat) (r : Sts) (cty : Scope) (fb1 : List BSc) (g1 cap1 : Nat) (ms1 : List Nat) (m1 : MS) (ve1 : EvS), j + r.len = len ∧ i = .int .i64 j ∧ r.toL = l.toL.drop j ∧ r.sz ≤ l.sz ∧ okS r = true ∧ r.Wf ∧ chS cf.vs cf.cs ret r (tysF fb) cty lp = .ok c' ∧ tysF fb1 = tysF fb ++ [cty] ∧ stmtsV cf (evl cf k) d l (bareF fb ++ [[]]) m = stmtsV cf (evl cf k) d r (bareF fb1) m1 ∧ CtX p cf u n shp d m1 ve1 F fb1 g1 cap1 ms1 wr ∧ KS p ve ve1 (FS F g ms fb) (FS F g1 ms1 fb1) w wr) (fun i _ => len - (intOf i).toNat)
 case atStart => exact ⟨0, l, [], fb ++ [[]], _, _, _, m, ve, by have := HLEN.out; omega, rfl, rfl, Nat.le_refl _, OK.out.1, OK.out.2.1, OK.out.2.2, by simp [tysF], by rw [bareF_app]; rfl, HX2.out, HK2.out⟩
 case round =>
  clear HX2 HK2
  obtain ⟨j, r, cty, fb1, g1, cap1, ms1, m1, ve1, hj, rfl, hr, hz, hro, hrw, hch, hty, hst, hX1, hK1⟩ := hrel
  have hfl1 := LF.out fb1 cty hty
  obtain ⟨fbx, cb, rfl, hty1, hty2⟩ := tys_last hty
  have hfx : fbx.length = fl := by simpa using hfl1
  have HX1 := hid hX1
  have HK1 := hid hK1
  have p2 := hX1.c.fr.box.cell 0
  simp at p2
  have f2 := hX1.c.fr.box.free 0
  rw [hfx] at p2
  have HFX := hid hfx
  have hcp : fl + 1 ≤ cap1 ∧ cap1 ≤ 9223372036854775807 := by
   rcases hX1.c.fr.row.2 with ⟨q, _⟩ | ⟨g3, cap3, cur3, hv3, _, _, q1, q2, _⟩
   ·cases q
   ·cases hv3
    simp at q1
    unfold maxLen at q2
    exact ⟨by omega, by omega⟩
  have POP := hid (show ∀ (fby : List BSc) (cy : BSc) (g9 cap9 : Nat) (ms9 : List Nat) (m9 : MS) (ve9 : EvS) (w9 : World) (q : Int × Int × Fr), fby.length = fl → CtX p cf u n shp d m9 ve9 F (fby ++ [cy]) g9 cap9 ms9 w9 → KS p ve ve9 (FS F g ms fb) (FS F g9 ms9 (fby ++ [cy])) w w9 → U q.2.1 → bareF (fby ++ [cy]) = q.2.2 → stmtsV cf (evl cf k) d l (bareF fb ++ [[]]) m = .ok q m9 →
    R (.returned (.tuple #[.int .i64 q.1, .int .u32 q.2.1])) (w9.setCell ⟨F, 0, none⟩ (.slice (some ⟨g9, 0, none⟩) fl cap9)) from fun fby cy g9 cap9 ms9 m9 ve9 w9 q h1 h2 h3 h4 h5 h6 => by
   obtain ⟨k1, k2⟩ := h2.pop
   rw [h1] at k1 k2
   rw [HR.out, hh.out, h6]
   refine finS_ok (x := (q.1, q.2.1, q.2.2.dropLast)) k1 ?_ h4 (h3.trans k2) rfl
   rw [← h5]
   simp [bareF])
  clear hX1 hK1 hfl1 hfx
  cases r with
  | nil =>
   simp only [Sts.len, Nat.add_zero] at hj
   have HST := hid (show stmtsV cf (evl cf k) d l (bareF fb ++ [[]]) m = .ok (0, 0, bareF (fbx ++ [cb])) m1 from hst)
   clear hr hz hro hrw hch hty hst
   obtain rfl : len = j := hj.symm
   obtain ⟨hcp1, hcp2⟩ := hcp
   have hcp3 : fl ≤ cap1 := by omega
   have hwr : IntKind.i64.wrap (fl : Int) = (fl : Int) := IntWalk.i64_in _ (by omega)
   go_wp2_with fail
   exact POP.out fbx cb g1 cap1 ms1 m1 ve1 wr (0, 0, bareF (fbx ++ [cb])) HFX.out HX1.out HK1.out U0 rfl HST.out
  | cons h x b e rest =>
   simp only [Sts.len] at hj
   simp only [Sts.sz] at hz
   simp only [okS, Bool.and_eq_true] at hro
   obtain ⟨c1, hs1, hs2⟩ := chS_cons hch
   obtain ⟨hget, hrd⟩ := list_drop (show (h, x, b, e) :: rest.toL = l.toL.drop j from hr)
   obtain ⟨bk, off, cp9, t, xa, xc, ba, bc, ea, ec, hk1, hk2, hk3, hk4, hk5⟩ := (KT.out wr HK1.out.k).kid j h x b e hget
   obtain ⟨rfl, hlk, rfl⟩ : ka = some ⟨bk, off, none⟩ ∧ len = l.len ∧ kc = cp9 := by simpa using hk1
   have hnlS : stmtV cf (evl cf k) d (bareF (fbx ++ [cb])) h x b e m1 ≠ .lost := by
    have := hnl0.out
    rw [hst] at this
    exact Out.of_bind this
   have hkid := hk2.sub (cells_only _ _)
   obtain ⟨a0, a1, a2, a3, a4⟩ := h
   obtain ⟨y0, y1, y2, y3, y4, y5, y6, y7⟩ := hkid
   simp only [] at y1 y2 y3 y4
   have BW := hid ((Below.refl wr.heap.size wr).alloc (Nat.le_refl _) (.cells #[.int .i64 t, .int .u8 a1, .string a2, .int .u8 a3, .string a4, .slice xa x.len xc, .slice ba b.len bc, .slice ea e.len ec] 109))
   have cx := hid (HS.out d m1 ve1 F (fbx ++ [cb]) g1 cap1 ms1 t ⟨a0, a1, a2, a3, a4⟩ x b e (.slice xa x.len xc) (.slice ba b.len bc) (.slice ea e.len ec) (tysF fb) cty c1 ret lp _ hty hro.1 hro.2.2.2.1 hro.2.1 hro.2.2.1 hrw.2.1 hrw.2.2.1 hrw.2.2.2.1 hs1 (hk3.sub (cells_old_below BW.out)) (hk4.sub (cells_old_below BW.out)) (hk5.sub (cells_old_below BW.out)) (by have h1 := HSZ.out; have h2 := HFX.out; simp; omega) (HX1.out.below BW.out) hnlS)
   have HTY := hid hty
   have HS1 := hid hs1
   have NX := hid (And.intro hrd (And.intro hro.2.2.2.2 (And.intro hrw.2.2.2.2 hs2)))
   have hjl : j < len := by omega
   have HJ := hid hj
   have HZ := hid hz
   have HST := hid hst
   have KB := hid (HK1.out.below BW.out)
   clear hr hz hro hrw hch hty hst hk1 hk2 hk3 hk4 hk5 hs1 hs2 hget hrd hj hlk hcp p2 f2
   go_wp2_with fail
   refine cx.out.mono ?_
   intro e9 w2 hp
   clear cx
   cases ho : stmtV cf (evl cf k) d (bareF (fbx ++ [cb])) ⟨a0, a1, a2, a3, a4⟩ x b e m1 with
   | lost => exact absurd ho hnlS
   | stop a b9 m2 =>
    rw [ho] at hp
    obtain ⟨rfl, ve2, d2, hM2, hK2⟩ := hp
    have hz9 := hid (show (evl cf (k + 1)).L d (bareF fb) l m = .stop a b9 m2 by rw [hh.out, HST.out]; simp only [stmtsV, ho, Out.bind])
    have F1 : Hid (PostS p cf u n shp d F ve (FS F g ms fb) (fun q : Int × Int × Fr => U q.2.1) (fun q => q.2.2) (fun q => Ending.returned (.tuple #[.int .i64 q.1, .int .u32 q.2.1])) (.stop a b9 m2) w (endE a b9) w2) := hid (finS_stop hM2 (KB.out.trans hK2) rfl)
    clear hM2 hK2 ho hnlS
    go_wp2_with fail
    refine bp_panic ?_
    rw [HR.out, hz9.out]
    exact F1.out
   | ok q m2 =>
    rw [ho] at hp
    obtain ⟨rfl, hU, ve2, fb2, g2, cap2, ms2, hb2, hX2, hK2⟩ := hp
    have hb2 : bareF fb2 = q.2.2 := hb2
    have hty2b : tysF fb2 = tysF fb ++ [c1] := by
     have h1 := Out.ty_ok (stmtV_ty (evl_ty cf k) d (bareF (fbx ++ [cb])) ⟨a0, a1, a2, a3, a4⟩ x b e m1) ho
     rw [tyFr_bare, HTY.out, stT_ok HS1.out, ← hb2, tyFr_bare] at h1
     exact h1
    obtain ⟨how, v2, fr2⟩ := q
    simp only [] at hU hb2 ⊢
    have K2 := hid (KB.out.trans hK2)
    have X2 := hid hX2
    have HB2 := hid hb2
    have HU := hid hU
    have TY2 := hid hty2b
    by_cases hq : how = 0
    ·have HST2 := hid (show stmtsV cf (evl cf k) d l (bareF fb ++ [[]]) m = stmtsV cf (evl cf k) d rest (bareF fb2) m2 by
      rw [HST.out]
      simp only [stmtsV, ho, Out.bind]
      rw [if_pos hq, hb2])
     subst hq
     clear hX2 hK2 ho hnlS hb2 hU hty2b
     go_wp2_with fail
     exact ⟨⟨j + 1, rest, c1, fb2, g2, cap2, ms2, m2, ve2, by have := HJ.out; omega, by go_num, NX.out.1, by have := HZ.out; omega, NX.out.2.1, NX.out.2.2.1, NX.out.2.2.2, TY2.out, HST2.out, X2.out, K2.out⟩, by simp only [intOf]; omega⟩
    ·obtain ⟨fby, cy, rfl, hty3, hty4⟩ := tys_last hty2b
     have hfl2 : fby.length = fl := by have := LF.out _ _ hty2b; simpa using this
     have HST2 := hid (show stmtsV cf (evl cf k) d l (bareF fb ++ [[]]) m = .ok (how, v2, fr2) m2 by
      rw [HST.out]
      simp only [stmtsV, ho, Out.bind]
      rw [if_neg hq])
     have p2 := hX2.c.fr.box.cell 0
     simp at p2
     rw [hfl2] at p2
     have f2 := hX2.c.fr.box.free 0
     have hcp : fl + 1 ≤ cap2 ∧ cap2 ≤ 9223372036854775807 := by
      rcases hX2.c.fr.row.2 with ⟨q, _⟩ | ⟨g3, cap3, cur3, hv3, _, _, q1, q2, _⟩
      ·cases q
      ·cases hv3
       simp at q1
       unfold maxLen at q2
       exact ⟨by omega, by omega⟩
     obtain ⟨hcp1, hcp2⟩ := hcp
     have hcp3 : fl ≤ cap2 := by omega
     have hwr : IntKind.i64.wrap (fl : Int) = (fl : Int) := IntWalk.i64_in _ (by omega)
     have HFL2 := hid hfl2
     have hne : (how != 0) = true := by simpa using hq
     clear hX2 hK2 ho hnlS hb2 hU hty2b hty3 hty4 hfl2
     go_wp2_with fail
     exact POP.out fby cy g2 cap2 ms2 m2 ve2 w2 (how, v2, fr2) HFL2.out X2.out K2.out HU.out HB2.out HST2.out
end
end Go.Proofs.YtlabadkfkbenoaaGreatDoor
