/- Walks and plain laws, merged: SenP SenQ SenV. No condition. -/
import Derived.Test.YtlabadkfkbenoaaGreatDoorKm10
import Derived.Test.YtlabadkfkbenoaaGreatDoorKm12
namespace Go.Proofs.YtlabadkfkbenoaaGreatDoor
open Go.RowKit
set_option linter.unusedVariables false
set_option linter.unusedSimpArgs false
set_option maxRecDepth 100000
set_option maxHeartbeats 64000000
section
open Go.Shelf
theorem bareB_n {wd ty : Int} {nm sg : ByteArray} {n k : Nat} (h : bareB wd ty nm sg n k = true) : n = k := by
 simp only [bareB, Bool.and_eq_true, beq_iff_eq] at h
 omega
theorem plainS_n {nm sg : ByteArray} {ty : Int} {n k nb ne : Nat} (h : plainS nm ty sg n k nb ne = true) : n = k := by
 simp only [plainS, Bool.and_eq_true, beq_iff_eq] at h
 omega
theorem okH_ar {h : EH} {n : Nat} (hk : okH h n = true) : arH h.kind n = true := by
 obtain ⟨a0, a1, a2, a3, a4, a5⟩ := h
 show arH a1 n = true
 by_cases h4 : a1 = 4
 ·subst h4
  rw [okH_4] at hk
  simp only [Bool.and_eq_true, beq_iff_eq] at hk
  rw [arH_4]
  simp
  omega
 by_cases h6 : a1 = 6
 ·subst h6
  rw [okH_6] at hk
  simp only [Bool.and_eq_true] at hk
  have := bareB_n hk.1
  rw [arH_6]
  simp
  omega
 by_cases h7 : a1 = 7
 ·subst h7
  rw [okH_7] at hk
  simp only [Bool.and_eq_true] at hk
  have := bareB_n hk.1
  rw [arH_7]
  simp
  omega
 simp [arH, h4, h6, h7]
theorem okE_ar : ∀ {l : Exs}, okE l = true → arE l = true
 | .nil, _ => rfl
 | .cons h k r, hk => by
  simp only [okE, Bool.and_eq_true] at hk
  simp only [arE, Bool.and_eq_true]
  exact ⟨⟨okE_ar hk.1.1, okH_ar hk.1.2⟩, okE_ar hk.2⟩
theorem okSH_ar {h : SH} {n nb ne : Nat} {fk : Int} (hk : okSH h n fk nb ne = true) : arSH h.kind n = true := by
 obtain ⟨a0, a1, a2, a3, a4⟩ := h
 show arSH a1 n = true
 by_cases h1 : a1 = 1
 ·subst h1; rw [okSH_1] at hk; simp only [Bool.and_eq_true] at hk; have := plainS_n hk.1; subst this; rfl
 by_cases h2 : a1 = 2
 ·subst h2; rw [okSH_2] at hk; simp only [Bool.and_eq_true] at hk; have := plainS_n hk.1; subst this; rfl
 by_cases h3 : a1 = 3
 ·subst h3; rw [okSH_3] at hk; simp only [Bool.and_eq_true] at hk; have := plainS_n hk.1; subst this; rfl
 by_cases h4 : a1 = 4
 ·subst h4; rw [okSH_4] at hk; have := plainS_n hk; subst this; rfl
 by_cases h5 : a1 = 5
 ·subst h5; rw [okSH_5] at hk; have := plainS_n hk; subst this; rfl
 by_cases h8 : a1 = 8
 ·subst h8; rw [okSH_8] at hk; have := plainS_n hk; subst this; rfl
 simp [arSH, h1, h2, h3, h4, h5, h8]
theorem okS_ar : ∀ {l : Sts}, okS l = true → arS l = true
 | .nil, _ => rfl
 | .cons h x b e r, hk => by
  simp only [okS, Bool.and_eq_true] at hk
  simp only [arS, Bool.and_eq_true]
  exact ⟨⟨⟨⟨okSH_ar hk.1, okE_ar hk.2.2.2.1⟩, okS_ar hk.2.1⟩, okS_ar hk.2.2.1⟩, okS_ar hk.2.2.2.2⟩
theorem chkU_fits {u : UT} (h : chkU u = 0) : fitsU u = true ∧ sumU u.fs ≤ 16384 := by
 unfold chkU at h
 split at h
 ·rename_i hf
  refine ⟨hf, ?_⟩
  split at h
  ·omega
  ·split at h <;> omega
 ·omega
theorem sumU_mem {l : List FH} {f : FH} (h : f ∈ l) : f.body.sz ≤ sumU l := by
 induction l with
 | nil => cases h
 | cons a r ih =>
  have e : sumU (a :: r) = a.body.sz + sumU r := rfl
  rcases List.mem_cons.1 h with rfl | h
  ·omega
  ·have := ih h; omega
theorem fitsU_fun {u : UT} (h : fitsU u = true) {f : FH} (hf : f ∈ u.fs) : okS f.body = true := by
 unfold fitsU at h
 simp only [Bool.and_eq_true, List.all_eq_true] at h
 have := h.2.2 f hf
 simp only [okFu, Bool.and_eq_true] at this
 exact this.2.2.2
/-! ### what is called has not too many parameters -/
def Fewp (cs : CSg) : Prop := ∀ s x, getM s cs = some x → x.params.length ≤ 100000000
theorem getM_putM {α : Type} (s t : ByteArray) (v : α) : ∀ l : List (ByteArray × α), getM s (putM t v l) = if s == t then some v else getM s l
 | [] => by
  simp only [putM]
  rw [getM_cons]
 | x :: r => by
  simp only [putM]
  split
  ·rename_i h
   have : t = x.1 := (MapKept.bytes_beq t x.1).1 h
   rw [getM_cons, getM_cons, this]
   split <;> rfl
  ·rename_i h
   rw [getM_cons, getM_cons, getM_putM s t v r]
   by_cases hs : (s == x.1) = true
   ·rw [hs]
    have e1 : s = x.1 := (MapKept.bytes_beq s x.1).1 hs
    have : (s == t) = false := by
     cases hq : s == t
     ·rfl
     ·have e2 : s = t := (MapKept.bytes_beq s t).1 hq
      rw [← e2, e1] at h
      exact absurd ((MapKept.bytes_beq x.1 x.1).2 rfl) h
    rw [this]
    simp
   ·simp only [hs]
    rfl
theorem Fewp.put {cs : CSg} (h : Fewp cs) (t : ByteArray) (g : Sig) (hg : g.params.length ≤ 100000000) : Fewp (putM t g cs) := by
 intro s x hx
 rw [getM_putM] at hx
 split at hx
 ·cases hx; exact hg
 ·exact h s x hx
theorem gatH_few {vs : VS} : ∀ {l : List HH} {i : Nat} {cs c2 : CSg}, (∀ x ∈ l, x.params.length ≤ 100000000) → Fewp cs → gatH l i vs cs = some c2 → Fewp c2
 | [], _, _, _, _, h, e => by cases e; exact h
 | a :: r, i, cs, c2, hl, h, e => by
  simp only [gatH] at e
  split at e
  ·cases e
  ·exact gatH_few (fun x hx => hl x (List.mem_cons_of_mem _ hx)) (h.put _ _ (hl a (List.mem_cons_self ..))) e
theorem gatF_few {vs : VS} : ∀ {l : List FH} {i : Nat} {cs c2 : CSg}, (∀ x ∈ l, x.params.length ≤ 100000000) → Fewp cs → gatF l i vs cs = some c2 → Fewp c2
 | [], _, _, _, _, h, e => by cases e; exact h
 | a :: r, i, cs, c2, hl, h, e => by
  simp only [gatF] at e
  split at e
  ·cases e
  ·exact gatF_few (fun x hx => hl x (List.mem_cons_of_mem _ hx)) (h.put _ _ (hl a (List.mem_cons_self ..))) e
theorem gatU_few {u : UT} {vs : VS} {cs : CSg} (ok : u.Ok) (h : gatU u = some (vs, cs)) : Fewp cs := by
 unfold gatU at h
 split at h
 ·cases h
 ·split at h
  ·cases h
  ·rename_i c1 h1
   split at h
   ·cases h
   ·rename_i c2 h2
    cases h
    exact gatF_few ok.fp (gatH_few ok.hp (fun s x hx => by cases hx) h1) h2
def chFs (vs : VS) (cs : CSg) : List FH → Int
 | [] => 0
 | f :: r => if chF vs cs f = 0 then chFs vs cs r else chF vs cs f
def senseU (u : UT) : Int :=
 if chkU u = 0 then match gatU u with
  | none => 290
  | some (vs, cs) => if 256 < u.gs.length ∨ 128 < u.fs.length ∨ 4096 < wordsL u.gs then 296 else chFs vs cs u.fs
 else chkU u
structure G34 (w : World) (n : Nat) (box : Array Value) (wr : World) : Prop where
 b1 : Bx wr n box 26
 b2 : Bx wr (n + 1) #[.map none, .map none] 91
 b3 : Bx wr (n + 1 + 1) #[.int .i64 0, .int .i64 0, .int .i64 0] 34
 b4 : Bx wr (n + 1 + 1 + 1) #[.map none, .map none] 91
 below : Below n w wr
theorem G34.on {w wr w' : World} {n : Nat} {box : Array Value} (h : G34 w n box wr) (hb : Below wr.heap.size wr w') : G34 w n box w' :=
 ⟨h.b1.on (grown_of_below hb) (by simp), h.b2.on (grown_of_below hb) (by simp), h.b3.on (grown_of_below hb) (by simp), h.b4.on (grown_of_below hb) (by simp), h.below.trans (hb.mono (by have := h.b1.lt; omega))⟩
theorem G34.start (w : World) (box : Array Value) : G34 w w.heap.size box ((((w.alloc (.cells box 26)).alloc (.cells #[.map none, .map none] 91)).alloc (.cells #[.int .i64 0, .int .i64 0, .int .i64 0] 34)).alloc (.cells #[.map none, .map none] 91)) :=
  ⟨(((Bx.new w box 26).al _).al _).al _, by simpa using ((Bx.new (w.alloc (.cells box 26)) #[.map none, .map none] 91).al _).al _,
   by simpa using (Bx.new ((w.alloc (.cells box 26)).alloc (.cells #[.map none, .map none] 91)) #[.int .i64 0, .int .i64 0, .int .i64 0] 34).al _,
   by simpa using Bx.new (((w.alloc (.cells box 26)).alloc (.cells #[.map none, .map none] 91)).alloc (.cells #[.int .i64 0, .int .i64 0, .int .i64 0] 34)) _ 91, by (repeat (first | exact Below.refl _ _ | refine Below.drew ?_ | refine Below.alloc ?_ (by simp <;> omega) _))⟩
theorem G34.laid {w wr : World} {n : Nat} {box : Array Value} (h : G34 w n box wr) (a b x y z : Value) :
  Bx (((((wr.setCell ⟨n + 1, 0, none⟩ a).setCell ⟨n + 1, 1, none⟩ b).setCell ⟨n + 1 + 1, 0, none⟩ x).setCell ⟨n + 1 + 1, 1, none⟩ y).setCell ⟨n + 1 + 1, 2, none⟩ z) (n + 1) #[a, b] 91 ∧
  Bx (((((wr.setCell ⟨n + 1, 0, none⟩ a).setCell ⟨n + 1, 1, none⟩ b).setCell ⟨n + 1 + 1, 0, none⟩ x).setCell ⟨n + 1 + 1, 1, none⟩ y).setCell ⟨n + 1 + 1, 2, none⟩ z) (n + 1 + 1) #[x, y, z] 34 ∧
  Below n w (((((wr.setCell ⟨n + 1, 0, none⟩ a).setCell ⟨n + 1, 1, none⟩ b).setCell ⟨n + 1 + 1, 0, none⟩ x).setCell ⟨n + 1 + 1, 1, none⟩ y).setCell ⟨n + 1 + 1, 2, none⟩ z) := by
 have k1 := (h.b2.set 0 a).set 1 b
 simp at k1
 have k2 : Bx ((wr.setCell ⟨n + 1, 0, none⟩ a).setCell ⟨n + 1, 1, none⟩ b) (n + 1 + 1) _ 34 := (h.b3.on (grown_setCell wr ⟨n + 1, 0, none⟩ a) (by simp)).on (grown_setCell _ ⟨n + 1, 1, none⟩ b) (by simp)
 refine ⟨((k1.on (grown_setCell _ ⟨n + 1 + 1, 0, none⟩ x) (by simp)).on (grown_setCell _ ⟨n + 1 + 1, 1, none⟩ y) (by simp)).on (grown_setCell _ ⟨n + 1 + 1, 2, none⟩ z) (by simp), ?_, ?_⟩
 ·have k3 := ((k2.set 0 x).set 1 y).set 2 z
  simpa using k3
 ·exact ((((h.below.setCell (by simp) a).setCell (by simp) b).setCell (by simp <;> omega) x).setCell (by simp <;> omega) y).setCell (by simp <;> omega) z
def P34 (w : World) (u : UT) (e : Ending) (w' : World) : Prop :=
 ∃ ma mb f s, e = .returned (.tuple #[.agg #[.map ma, .map mb], .agg #[.int .i64 (senseU u), .int .i64 f, .int .i64 s]]) ∧ Below w.heap.size w w'
theorem P34.of {w w' : World} {u : UT} {a b : Option Nat} {x f s : Int} (h : senseU u = x) (hb : Below w.heap.size w w') : P34 w u (.returned (.tuple #[.agg #[.map a, .map b], .agg #[.int .i64 x, .int .i64 f, .int .i64 s]])) w' := ⟨_, _, _, _, by rw [h], hb⟩
theorem results_cell_cell {fn : Func} {p q : Tmp} {ty tz : TypeId} (h : fn.results = #[.cell p ty, .cell q tz]) (tmps : Array Value) (P : Program) (w : World) :
  (results fn tmps).run P w =
   ((asAddr (tmps.getD p undef)).run P w).andThen fun a w₁ => ((loadVar ty a).run P w₁).andThen fun v w₂ => ((asAddr (tmps.getD q undef)).run P w₂).andThen fun b w₃ => ((loadVar tz b).run P w₃).andThen fun x w₄ => .ok (.tuple #[v, x]) w₄ := by
 simp only [results, h]
 simp [Sem.run_bind, Result.andThen]
theorem res34 (w : World) (q : Nat) (a b c : Value) (hb : Bx w q #[a, b, c] 34) : (loadVar 34 ⟨q, 0, none⟩).run Tryz.prog w = .ok (.agg #[a, b, c]) w :=
 run_loadVar_row (P := Tryz.prog) w q 34 34 _ (0, 0) _ hb Tryz.underlying34 rfl (by kernel_rfl)
theorem checked34 (u : UT) (v : Value) (w : World) (ok : u.Ok) (wf : u.Wf) (hln : Hid (∀ x ∈ u.gs, 0 ≤ x.len ∧ x.len < 4294967296)) (hv : UIn w false none u v) : Calls Tryz.prog 34 #[v] w (P34 w u) := by
 have hV := hid hv
 obtain ⟨vg, vh, vf, rfl, hg, hh, hf⟩ := hv
 obtain ⟨ga, gb, go, gc, rfl, hga, hgi⟩ := SlR.open hg
 obtain ⟨ha, hbk, ho, hc, rfl, hha, hhi⟩ := SlR.open hh
 obtain ⟨fa, fb, fo, fc, rfl, hfa, hfi⟩ := SlR.open hf
 have hF := hid hfi
 have g1 := ok.g
 have g2 := ok.h
 have g3 := ok.f
 have OK := hid ok
 have WF := hid wf
 obtain ⟨gs, hs, fs⟩ := u
 simp only [] at *
 obtain ⟨mg, hmg⟩ : ∃ m, m = gs.length := ⟨_, rfl⟩
 obtain ⟨mh, hmh⟩ : ∃ m, m = hs.length := ⟨_, rfl⟩
 obtain ⟨mf, hmf⟩ : ∃ m, m = fs.length := ⟨_, rfl⟩
 rw [← hmg] at hga g1
 rw [← hmh] at hha g2
 rw [← hmf] at hfa g3
 rw [← hmg, ← hmh, ← hmf] at hV
 have hMG := hid hmg
 have hMH := hid hmh
 have hMF := hid hmf
 have hX0 := hid (G34.start w #[.slice ga mg gc, .slice ha mh hc, .slice fa mf fc])
 have cc := hid (check6 ⟨gs, hs, fs⟩ _ _ ok wf (hV.out.mono hX0.out.below))
 obtain ⟨ck, hck⟩ : ∃ c, c = chkU ⟨gs, hs, fs⟩ := ⟨_, rfl⟩
 rw [← hck] at cc
 have HCK := hid hck
 rw [← hmg, ← hmh, ← hmf]
 clear hg hh hf hfi ok wf hmg hmh hmf hga hha hgi hhi hck
 go_enter Tryz.func34, Tryz.ntmps34
 go_wp2_with fail
 refine cc.out.mono ?_
 rintro e w1 ⟨rfl, hb1⟩
 have hX1 := hid (hX0.out.on hb1)
 clear hb1 cc hX0
 by_cases hc0 : ck = 0
 rotate_left
 ·have hs : Hid (senseU ⟨gs, hs, fs⟩ = ck) := hid (by unfold senseU; rw [← HCK.out, if_neg hc0])
  have hc1 : (ck == 0) = false := by simpa using hc0
  have q0 := hX1.out.b4.cell 0
  have q1 := hX1.out.b4.cell 1
  have z0 := hX1.out.b2.cell 0
  have z1 := hX1.out.b2.cell 1
  have f0 := hX1.out.b2.free 0
  have f1 := hX1.out.b2.free 1
  have y0 := hX1.out.b3.cell 0
  have y1 := hX1.out.b3.cell 1
  have y2 := hX1.out.b3.cell 2
  have e0 := hX1.out.b3.free 0
  have e1 := hX1.out.b3.free 1
  have e2 := hX1.out.b3.free 2
  simp at q0 q1 z0 z1 y0 y1 y2
  have hLD := hX1.out.laid (.map none) (.map none) (.int .i64 ck) (.int .i64 (-1)) (.int .i64 (-1))
  obtain ⟨l1, l2, l3⟩ := hLD
  have L1 := hid l1
  have L2 := hid l2
  have L3 := hid l3
  clear l1 l2 l3
  go_wp2_with fail
  refine bodyPost_ret (v := .tuple #[.agg #[.map none, .map none], .agg #[.int .i64 ck, .int .i64 (-1), .int .i64 (-1)]]) ?_ rfl (P34.of hs.out L3.out)
  rw [results_cell_cell rfl]
  have hl1 := res40 _ _ _ _ L1.out
  have hl2 := res34 _ _ _ _ _ L2.out
  simp [asAddr, Result.andThen, hl1, hl2]
 subst hc0
 have HF := hid (chkU_fits HCK.out.symm)
 have p0 := hX1.out.b1.cell 0
 have p1 := hX1.out.b1.cell 1
 have p2 := hX1.out.b1.cell 2
 simp at p0 p1 p2
 have cg := hid (gathered40 ⟨gs, hs, fs⟩ _ w1 OK.out (hV.out.mono hX1.out.below))
 skip
 go_wp2_with fail
 refine cg.out.mono ?_
 clear cg
 unfold P40
 rintro e w2 ⟨v0, b, rfl, hb2, hgat⟩
 have hX2 := hid (hX1.out.on hb2)
 clear hb2 p0 p1 p2
 cases hgu : gatU ⟨gs, hs, fs⟩ with
 | none =>
  rw [hgu] at hgat
  obtain ⟨rfl, rfl⟩ := hgat
  have hs : Hid (senseU ⟨gs, hs, fs⟩ = 290) := hid (by unfold senseU; rw [if_pos HCK.out.symm, hgu])
  have hX3 := hid (hX2.out.on ((Below.refl w2.heap.size w2).alloc (Nat.le_refl _) (.cells #[.map (some (w1.heap.size + 1 + 1)), .map (some (w1.heap.size + 1 + 1 + 1))] 91)))
  have q0 := hX3.out.b4.cell 0
  have q1 := hX3.out.b4.cell 1
  have z0 := hX3.out.b2.cell 0
  have z1 := hX3.out.b2.cell 1
  have f0 := hX3.out.b2.free 0
  have f1 := hX3.out.b2.free 1
  have y0 := hX3.out.b3.cell 0
  have y1 := hX3.out.b3.cell 1
  have y2 := hX3.out.b3.cell 2
  have e0 := hX3.out.b3.free 0
  have e1 := hX3.out.b3.free 1
  have e2 := hX3.out.b3.free 2
  simp at q0 q1 z0 z1 y0 y1 y2
  have hLD := hX3.out.laid (.map none) (.map none) (.int .i64 290) (.int .i64 (-1)) (.int .i64 (-1))
  obtain ⟨l1, l2, l3⟩ := hLD
  have L1 := hid l1
  have L2 := hid l2
  have L3 := hid l3
  clear l1 l2 l3
  go_wp2_with fail
  refine bodyPost_ret (v := .tuple #[.agg #[.map none, .map none], .agg #[.int .i64 290, .int .i64 (-1), .int .i64 (-1)]]) ?_ rfl (P34.of hs.out L3.out)
  rw [results_cell_cell rfl]
  have hl1 := res40 _ _ _ _ L1.out
  have hl2 := res34 _ _ _ _ _ L2.out
  simp [asAddr, Result.andThen, hl1, hl2]
 | some vc =>
  obtain ⟨vs, cs⟩ := vc
  rw [hgu] at hgat
  obtain ⟨rfl, rfl, hnm⟩ := hgat
  have FW := hid (gatU_few OK.out hgu)
  obtain ⟨vb, hvb⟩ : ∃ q, q = w1.heap.size + 1 + 1 := ⟨_, rfl⟩
  obtain ⟨cb, hcb⟩ : ∃ q, q = w1.heap.size + 1 + 1 + 1 := ⟨_, rfl⟩
  rw [← hcb, ← hvb] at hnm
  rw [← hcb, ← hvb]
  have hB9 := hid ((Below.refl w2.heap.size w2).alloc (Nat.le_refl _) (.cells #[.map (some vb), .map (some cb)] 91))
  have hX3 := hid (hX2.out.on hB9.out)
  have NM := hid (hnm.mono hB9.out)
  have B6 := hid (Bx.new w2 #[.map (some vb), .map (some cb)] 91)
  have hs0 : Hid (∀ x, (if 256 < gs.length ∨ 128 < fs.length ∨ 4096 < wordsL gs then 296 else chFs vs cs fs) = x → senseU ⟨gs, hs, fs⟩ = x) := hid (fun x hx => by unfold senseU; rw [if_pos HCK.out.symm, hgu]; exact hx)
  have p0 := hX3.out.b1.cell 0
  have p1 := hX3.out.b1.cell 1
  have p2 := hX3.out.b1.cell 2
  simp at p0 p1 p2
  clear hgu hvb hcb hnm hB9
  by_cases hk1 : (256 : Int) < (mg : Int)
  ·skip
   have hs : Hid (senseU ⟨gs, hs, fs⟩ = 296) := hid (hs0.out _ (if_pos (by have := hMG.out; have := hMF.out; omega)))
   have q0 := hX3.out.b4.cell 0
   have q1 := hX3.out.b4.cell 1
   have z0 := hX3.out.b2.cell 0
   have z1 := hX3.out.b2.cell 1
   have f0 := hX3.out.b2.free 0
   have f1 := hX3.out.b2.free 1
   have y0 := hX3.out.b3.cell 0
   have y1 := hX3.out.b3.cell 1
   have y2 := hX3.out.b3.cell 2
   have e0 := hX3.out.b3.free 0
   have e1 := hX3.out.b3.free 1
   have e2 := hX3.out.b3.free 2
   simp at q0 q1 z0 z1 y0 y1 y2
   have hLD := hX3.out.laid (.map none) (.map none) (.int .i64 296) (.int .i64 (-1)) (.int .i64 (-1))
   obtain ⟨l1, l2, l3⟩ := hLD
   have L1 := hid l1
   have L2 := hid l2
   have L3 := hid l3
   clear l1 l2 l3
   go_wp2_with fail
   refine bodyPost_ret (v := .tuple #[.agg #[.map none, .map none], .agg #[.int .i64 296, .int .i64 (-1), .int .i64 (-1)]]) ?_ rfl (P34.of hs.out L3.out)
   rw [results_cell_cell rfl]
   have hl1 := res40 _ _ _ _ L1.out
   have hl2 := res34 _ _ _ _ _ L2.out
   simp [asAddr, Result.andThen, hl1, hl2]
  by_cases hk2 : (128 : Int) < (mf : Int)
  ·skip
   have hs : Hid (senseU ⟨gs, hs, fs⟩ = 296) := hid (hs0.out _ (if_pos (by have := hMG.out; have := hMF.out; omega)))
   have q0 := hX3.out.b4.cell 0
   have q1 := hX3.out.b4.cell 1
   have z0 := hX3.out.b2.cell 0
   have z1 := hX3.out.b2.cell 1
   have f0 := hX3.out.b2.free 0
   have f1 := hX3.out.b2.free 1
   have y0 := hX3.out.b3.cell 0
   have y1 := hX3.out.b3.cell 1
   have y2 := hX3.out.b3.cell 2
   have e0 := hX3.out.b3.free 0
   have e1 := hX3.out.b3.free 1
   have e2 := hX3.out.b3.free 2
   simp at q0 q1 z0 z1 y0 y1 y2
   have hLD := hX3.out.laid (.map none) (.map none) (.int .i64 296) (.int .i64 (-1)) (.int .i64 (-1))
   obtain ⟨l1, l2, l3⟩ := hLD
   have L1 := hid l1
   have L2 := hid l2
   have L3 := hid l3
   clear l1 l2 l3
   go_wp2_with fail
   refine bodyPost_ret (v := .tuple #[.agg #[.map none, .map none], .agg #[.int .i64 296, .int .i64 (-1), .int .i64 (-1)]]) ?_ rfl (P34.of hs.out L3.out)
   rw [results_cell_cell rfl]
   have hl1 := res40 _ _ _ _ L1.out
   have hl2 := res34 _ _ _ _ _ L2.out
   simp [asAddr, Result.andThen, hl1, hl2]
  have cw := hid (words64 ⟨gs, hs, fs⟩ _ (w2.alloc (.cells #[.map (some vb), .map (some cb)] 91)) OK.out.g hln (hV.out.mono hX3.out.below))
  go_wp2_with fail
  refine cw.out.mono ?_
  rintro e w3 ⟨rfl, hb3⟩
  have hX4 := hid (hX3.out.on hb3)
  have B6b := hid (B6.out.on (grown_of_below hb3) (by simp))
  have NM2 := hid (NM.out.mono hb3)
  clear hb3 cw NM B6 hX3
  obtain ⟨wl, hwl⟩ : ∃ x, x = wordsL gs := ⟨_, rfl⟩
  have HWL := hid hwl
  simp only []
  rw [← hwl]
  clear hwl
  by_cases hk3 : 4096 < wl
  ·have hs : Hid (senseU ⟨gs, hs, fs⟩ = 296) := hid (hs0.out _ (if_pos (by have := HWL.out; omega)))
   have q0 := hX4.out.b4.cell 0
   have q1 := hX4.out.b4.cell 1
   have z0 := hX4.out.b2.cell 0
   have z1 := hX4.out.b2.cell 1
   have f0 := hX4.out.b2.free 0
   have f1 := hX4.out.b2.free 1
   have y0 := hX4.out.b3.cell 0
   have y1 := hX4.out.b3.cell 1
   have y2 := hX4.out.b3.cell 2
   have e0 := hX4.out.b3.free 0
   have e1 := hX4.out.b3.free 1
   have e2 := hX4.out.b3.free 2
   simp at q0 q1 z0 z1 y0 y1 y2
   have hLD := hX4.out.laid (.map none) (.map none) (.int .i64 296) (.int .i64 (-1)) (.int .i64 (-1))
   obtain ⟨l1, l2, l3⟩ := hLD
   have L1 := hid l1
   have L2 := hid l2
   have L3 := hid l3
   clear l1 l2 l3
   go_wp2_with fail
   refine bodyPost_ret (v := .tuple #[.agg #[.map none, .map none], .agg #[.int .i64 296, .int .i64 (-1), .int .i64 (-1)]]) ?_ rfl (P34.of hs.out L3.out)
   rw [results_cell_cell rfl]
   have hl1 := res40 _ _ _ _ L1.out
   have hl2 := res34 _ _ _ _ _ L2.out
   simp [asAddr, Result.andThen, hl1, hl2]
  have hsE : Hid (senseU ⟨gs, hs, fs⟩ = chFs vs cs fs) := hid (hs0.out _ (if_neg (by have := HWL.out; have := hMG.out; have := hMF.out; omega)))
  clear p0 p1 p2
  have p2 := hX4.out.b1.cell 2
  simp at p2
  go_wp2_with fail
  go_loopw [49] (fun i wr => ∃ k : Nat, i = .int .i64 k ∧ k ≤ mf ∧ chFs vs cs fs = chFs vs cs (fs.drop k) ∧ G34 w w.heap.size #[.slice ga mg gc, .slice ha mh hc, .slice fa mf fc] wr ∧ Bx wr w2.heap.size #[.map (some vb), .map (some cb)] 91 ∧ NmR wr vs cs vb cb) (fun i _ => mf - (intOf i).toNat)
  case atStart => exact ⟨0, rfl, Nat.zero_le _, rfl, hX4.out, B6b.out, NM2.out⟩
  case round =>
   clear p2
   obtain ⟨k, rfl, hk, hch, hX, hb6, hnm⟩ := hrel
   have hA := hid hch
   have hX5 := hid hX
   have B7 := hid hb6
   have NM3 := hid hnm
   clear hch hb6 hnm hX4 B6b NM2
   by_cases hlt : k < mf
   ·have hlt' : k < fs.length := by have := hMF.out; omega
    obtain ⟨⟨t, y0, _⟩, y1, ⟨v2, y2, y2'⟩, y3, y4, ⟨v5, y5, y5'⟩⟩ := hF.out k hlt'
    have hmem := List.getElem_mem hlt'
    have hao := okS_ar (fitsU_fun HF.out.1 hmem)
    have hsz : fs[k].body.sz ≤ 16384 := Nat.le_trans (sumU_mem hmem) HF.out.2
    have hpl := OK.out.fp _ hmem
    have hdr := hid (show fs.drop k = fs[k] :: fs.drop (k + 1) from List.drop_eq_getElem_cons hlt')
    have x0 := cell_on y0 hX.below
    have x1 := cell_on y1 hX.below
    have x2 := cell_on y2 hX.below
    have x3 := cell_on y3 hX.below
    have x4 := cell_on y4 hX.below
    have x5 := cell_on y5 hX.below
    have hka2 : fa = some ⟨fb, fo, none⟩ := by rcases hfa with q | q; (· omega); (· exact q)
    subst hka2
    generalize fs[k] = a at x1 x2 x3 x4 x5 hdr y2' y5' hao hsz hpl
    obtain ⟨at0, nm, ps, ty, op, bd⟩ := a
    simp only [] at x1 x2 x3 x4 x5 y2' y5' hao hsz hpl
    obtain ⟨va, vc, rfl⟩ := y2'.shape'
    obtain ⟨ba, bc, rfl⟩ := y5'.shape'
    clear hfa y0 y1 y2 y3 y4 y5 hmem
    have hB8 := (Below.refl wr.heap.size wr).alloc (Nat.le_refl _) (.cells #[.int .i64 t, .string nm, .slice va ps.length vc, .int .u8 ty, .bool op, .slice ba bd.len bc] 43)
    have hwr := hX.below
    have cf := hid (function65 vs cs vb cb t ⟨at0, nm, ps, ty, op, bd⟩ (.slice va ps.length vc) (.slice ba bd.len bc) (wr.alloc (.cells #[.int .i64 t, .string nm, .slice va ps.length vc, .int .u8 ty, .bool op, .slice ba bd.len bc] 43)) (NM3.out.mono hB8) (hid FW.out) (y2'.plain.mono (hwr.trans (hB8.mono hwr.size))) (y5'.mono (hwr.trans (hB8.mono hwr.size))) hpl (by show bd.sz ≤ _; omega) hao)
    have hB8h := hid hB8
    have q0 := cell_on (B7.out.cell 0) hB8
    have q1 := cell_on (B7.out.cell 1) hB8
    clear y2' y5' hB8 hwr hX hao hsz hpl
    go_wp2_with fail
    refine cf.out.mono ?_
    rintro e w4 ⟨⟨sv, rfl⟩, hb4⟩
    have hB4 := hid (hB8h.out.trans (hb4.mono hB8h.out.size))
    have hX6 := hid (hX5.out.on hB4.out)
    have B8 := hid (B7.out.on (grown_of_below hB4.out) (by simp))
    have NM4 := hid (NM3.out.mono hB4.out)
    clear hb4 cf q0 q1 hB8h
    obtain ⟨er, her⟩ : ∃ x, x = chF vs cs ⟨at0, nm, ps, ty, op, bd⟩ := ⟨_, rfl⟩
    rw [← her]
    have HER := hid her
    clear her
    by_cases he0 : er = 0
    ·subst he0
     have hn : Hid (chFs vs cs fs = chFs vs cs (fs.drop (k + 1))) := hid (by rw [hA.out, hdr.out]; simp only [chFs]; rw [← HER.out]; simp)
     go_wp2_with fail
     exact ⟨⟨k + 1, by go_num, by omega, hn.out, hX6.out, B8.out, NM4.out⟩, by simp only [intOf]; omega⟩
    ·have hn : Hid (senseU ⟨gs, hs, fs⟩ = er) := hid (by rw [hsE.out, hA.out, hdr.out]; simp only [chFs]; rw [← HER.out, if_neg he0])
     have he1 : (er == 0) = false := by simpa using he0
     have q0 := hX6.out.b4.cell 0
     have q1 := hX6.out.b4.cell 1
     have z0 := hX6.out.b2.cell 0
     have z1 := hX6.out.b2.cell 1
     have f0 := hX6.out.b2.free 0
     have f1 := hX6.out.b2.free 1
     have y0 := hX6.out.b3.cell 0
     have y1 := hX6.out.b3.cell 1
     have y2 := hX6.out.b3.cell 2
     have e0 := hX6.out.b3.free 0
     have e1 := hX6.out.b3.free 1
     have e2 := hX6.out.b3.free 2
     simp at q0 q1 z0 z1 y0 y1 y2
     have hLD := hX6.out.laid (.map none) (.map none) (.int .i64 er) (.int .i64 k) (.int .i64 sv)
     obtain ⟨l1, l2, l3⟩ := hLD
     have L1 := hid l1
     have L2 := hid l2
     have L3 := hid l3
     clear l1 l2 l3
     go_wp2_with fail
     refine bodyPost_ret (v := .tuple #[.agg #[.map none, .map none], .agg #[.int .i64 er, .int .i64 k, .int .i64 sv]]) ?_ rfl (P34.of hn.out L3.out)
     rw [results_cell_cell rfl]
     have hl1 := res40 _ _ _ _ L1.out
     have hl2 := res34 _ _ _ _ _ L2.out
     simp [asAddr, Result.andThen, hl1, hl2]
   ·have hk2 : k = mf := by omega
    subst k
    have hn : Hid (senseU ⟨gs, hs, fs⟩ = 0) := hid (by rw [hsE.out, hA.out, hMF.out, List.drop_length]; rfl)
    have r0 := B7.out.cell 0
    have r1 := B7.out.cell 1
    simp at r0 r1
    have q0 := hX5.out.b4.cell 0
    have q1 := hX5.out.b4.cell 1
    have z0 := hX5.out.b2.cell 0
    have z1 := hX5.out.b2.cell 1
    have f0 := hX5.out.b2.free 0
    have f1 := hX5.out.b2.free 1
    have y0 := hX5.out.b3.cell 0
    have y1 := hX5.out.b3.cell 1
    have y2 := hX5.out.b3.cell 2
    have e0 := hX5.out.b3.free 0
    have e1 := hX5.out.b3.free 1
    have e2 := hX5.out.b3.free 2
    simp at q0 q1 z0 z1 y0 y1 y2
    have hLD := hX5.out.laid (.map (some vb)) (.map (some cb)) (.int .i64 0) (.int .i64 0) (.int .i64 0)
    obtain ⟨l1, l2, l3⟩ := hLD
    have L1 := hid l1
    have L2 := hid l2
    have L3 := hid l3
    clear l1 l2 l3
    clear q0 q1 hX
    go_wp2_with fail
    refine bodyPost_ret (v := .tuple #[.agg #[.map (some vb), .map (some cb)], .agg #[.int .i64 0, .int .i64 0, .int .i64 0]]) ?_ rfl (P34.of hn.out L3.out)
    rw [results_cell_cell rfl]
    have hl1 := res40 _ _ _ _ L1.out
    have hl2 := res34 _ _ _ _ _ L2.out
    simp [asAddr, Result.andThen, hl1, hl2]
end
section
open Go.Shelf
theorem check10 (u : UT) (v : Value) (w : World) (ok : u.Ok) (wf : u.Wf) (hln : Hid (∀ x ∈ u.gs, 0 ≤ x.len ∧ x.len < 4294967296)) (hv : UIn w false none u v) :
  Calls Tryz.prog 10 #[v] w fun e w' => (∃ f s, e = .returned (.agg #[.int .i64 (senseU u), .int .i64 f, .int .i64 s])) ∧ Below w.heap.size w w' := by
 have hV := hid hv
 obtain ⟨vg, vh, vf, rfl, hg, hh, hf⟩ := hv
 obtain ⟨ga, gb, go, gc, rfl, -, -⟩ := SlR.open hg
 obtain ⟨ha, hbk, ho, hc, rfl, -, -⟩ := SlR.open hh
 obtain ⟨fa, fb, fo, fc, rfl, -, -⟩ := SlR.open hf
 clear hg hh hf
 have b1 := hid ((Bx.new w #[.slice ga u.gs.length gc, .slice ha u.hs.length hc, .slice fa u.fs.length fc] 26).al (.cells #[.int .i64 0, .int .i64 0, .int .i64 0] 34))
 have b2 : Hid (Bx ((w.alloc (.cells #[.slice ga u.gs.length gc, .slice ha u.hs.length hc, .slice fa u.fs.length fc] 26)).alloc (.cells #[.int .i64 0, .int .i64 0, .int .i64 0] 34)) (w.heap.size + 1) #[.int .i64 0, .int .i64 0, .int .i64 0] 34) := hid (by simpa using Bx.new (w.alloc (.cells #[.slice ga u.gs.length gc, .slice ha u.hs.length hc, .slice fa u.fs.length fc] 26)) #[.int .i64 0, .int .i64 0, .int .i64 0] 34)
 have hB := hid (show Below w.heap.size w ((w.alloc (.cells #[.slice ga u.gs.length gc, .slice ha u.hs.length hc, .slice fa u.fs.length fc] 26)).alloc (.cells #[.int .i64 0, .int .i64 0, .int .i64 0] 34)) by (repeat (first | exact Below.refl _ _ | refine Below.drew ?_ | refine Below.alloc ?_ (by simp <;> omega) _)))
 have cc := hid (checked34 u _ _ ok wf hln (hV.out.mono hB.out))
 clear ok wf
 go_enter Tryz.func10, Tryz.ntmps10
 go_wp2_with fail
 refine cc.out.mono ?_
 rintro e w1 ⟨ma, mb, f, s, rfl, hb1⟩
 have hB1 := hid (hB.out.trans (hb1.mono hB.out.size))
 have B2 := hid (b2.out.on (grown_of_below hb1) (by simp))
 clear hb1 cc hB b1 b2
 have z0 := (B2.out.al (.cells #[.map ma, .map mb] 91)).al (.cells #[.int .i64 (senseU u), .int .i64 f, .int .i64 s] 34)
 have y0 := z0.cell 0
 have y1 := z0.cell 1
 have y2 := z0.cell 2
 have f0 := z0.free 0
 have f1 := z0.free 1
 have f2 := z0.free 2
 simp at y0 y1 y2
 have hq1 := B2.out.lt
 have g0 := B2.out.free 0
 have g1 := B2.out.free 1
 have g2 := B2.out.free 2
 have hq2 : w.heap.size + 1 < (w1.alloc (.cells #[.map ma, .map mb] 91)).heap.size := by simp; omega
 have hST := hid (((z0.set 0 (.int .i64 (senseU u))).set 1 (.int .i64 f)).set 2 (.int .i64 s))
 simp at hST
 clear z0
 have hB9 := hid (((((hB1.out.alloc (by have := hB1.out.size; omega) (.cells #[.map ma, .map mb] 91)).alloc (by have := hB1.out.size; simp; omega) (.cells #[.int .i64 (senseU u), .int .i64 f, .int .i64 s] 34)).setCell (p := ⟨w.heap.size + 1, 0, none⟩) (by simp <;> omega) (.int .i64 (senseU u))).setCell (p := ⟨w.heap.size + 1, 1, none⟩) (by simp <;> omega) (.int .i64 f)).setCell (p := ⟨w.heap.size + 1, 2, none⟩) (by simp <;> omega) (.int .i64 s))
 go_wp2_with fail
 refine bodyPost_ret (v := .agg #[.int .i64 (senseU u), .int .i64 f, .int .i64 s]) (results_cell_row rfl _ _ (w.heap.size + 1) _ _ _ _ rfl hST.out Tryz.underlying34 rfl (by kernel_rfl)) rfl ?_
 exact ⟨⟨_, _, rfl⟩, hB9.out⟩
end
section
open Go.Shelf
abbrev HD := List (ByteArray × List Int)
def hcells : HD → List Value → List Value
 | a :: r, x :: xs => .string a.1 :: x :: hcells r xs
 | _, _ => []
theorem hcells_add (nm : ByteArray) (ws : List Int) (x : Value) : ∀ (hd : HD) (xs : List Value), xs.length = hd.length → hcells (hd ++ [(nm, ws)]) (xs ++ [x]) = hcells hd xs ++ [.string nm, x]
 | [], [], _ => rfl
 | a :: r, y :: xs, h => by
  have := hcells_add nm ws x r xs (by simpa using h)
  simp only [List.cons_append, hcells, this]
 | [], x :: xs, h => by simp at h
 | a :: r, [], h => by simp at h
structure HeldR (w : World) (B : Nat) (hd : HD) (xs : List Value) (v : Value) : Prop where
 len : xs.length = hd.length
 row : w.ownsRow B 82 2 v hd.length (hcells hd xs)
 rows : ∀ i (h : i < xs.length) (h' : i < hd.length), w.ownsRow B 52 1 xs[i] hd[i].2.length (hd[i].2.map (Value.int .u32))
 pos : ∀ i (h' : i < hd.length), 0 < hd[i].2.length
 nd : (xs.map Value.ownBlock).Nodup
theorem HeldR.on {w w' : World} {B : Nat} {hd : HD} {xs : List Value} {v : Value} (h : HeldR w B hd xs v) {row : Option Nat} (hg : w.grownBy w' row) (hv : v.ownBlock = none ∨ v.ownBlock ≠ row) (hx : ∀ x ∈ xs, x.ownBlock = none ∨ x.ownBlock ≠ row) : HeldR w' B hd xs v :=
 ⟨h.len, h.row.kept hg hv, fun i h1 h2 => (h.rows i h1 h2).kept hg (hx _ (List.getElem_mem h1)), h.pos, h.nd⟩
theorem HeldR.mono {w w' : World} {B : Nat} {hd : HD} {xs : List Value} {v : Value} (h : HeldR w B hd xs v) (hb : Below w.heap.size w w') : HeldR w' B hd xs v :=
 h.on (row := none) (grown_of_below hb) (by cases hq : v.ownBlock; exact .inl rfl; exact .inr (by simp)) (fun x _ => by cases hq : x.ownBlock; exact .inl rfl; exact .inr (by simp))
theorem HeldR.box {w : World} {B : Nat} {hd : HD} {xs : List Value} {v : Value} (h : HeldR w B hd xs v) {q : Nat} {cs : Array Value} {t : TypeId} (hx : Bx w q cs t) (h1 : t ≠ 82) (h2 : t ≠ 52) : some q ≠ v.ownBlock ∧ ∀ x ∈ xs, some q ≠ x.ownBlock :=
 ⟨hx.not_row h.row h1, fun x hm => by
  obtain ⟨i, hi, rfl⟩ := List.getElem_of_mem hm
  exact hx.not_row (h.rows i hi (by have := h.len; omega)) h2⟩
theorem own_not_map {w : World} {b : Nat} {l : List (ByteArray × Value)} (hm : Mp w b l) {base : Nat} {e : TypeId} {size n : Nat} {v : Value} {xs : List Value} (h : w.ownsRow base e size v n xs) : some b ≠ v.ownBlock := fun e1 => by
 rcases h.2 with ⟨rfl, _⟩ | ⟨g, cap, cur, rfl, _, hg, _⟩
 ·cases e1
 ·simp only [Value.ownBlock, Option.some.injEq] at e1
  subst e1
  obtain ⟨es, c, hm, _⟩ := hm
  rw [hg] at hm
  cases hm
theorem HeldR.add {w w' : World} {B : Nat} {hd : HD} {xs : List Value} {v v' : Value} {nm : ByteArray} {ws : List Int} {x : Value} (h : HeldR w B hd xs v) (hx : w.ownsRow B 52 1 x ws.length (ws.map (Value.int .u32))) (hp : 0 < ws.length) (hne : ∀ y ∈ xs, y.ownBlock ≠ x.ownBlock)
  (hA : Appended w w' B 82 2 v v' hd.length 1 (hcells hd xs) [.string nm, x]) : HeldR w' B (hd ++ [(nm, ws)]) (xs ++ [x]) v' := by
 have keep : ∀ {y : Value} {n : Nat} {ys : List Value}, w.ownsRow B 52 1 y n ys → w'.ownsRow B 52 1 y n ys := fun {y n ys} hy => by
  refine hy.kept hA.grown ?_
  rcases row_ne hy h.row (by decide) with e | e
  ·exact .inl e
  ·exact .inr e
 refine ⟨by simp [h.len], ?_, ?_, ?_, ?_⟩
 ·rw [hcells_add nm ws x hd xs h.len, List.length_append]
  exact hA.own
 ·intro i h1 h2
  by_cases hi : i < xs.length
  ·have hi2 : i < hd.length := by have := h.len; omega
   rw [List.getElem_append_left hi, List.getElem_append_left hi2]
   exact keep (h.rows i hi hi2)
  ·have e1 : i = xs.length := by simp at h1; omega
   subst e1
   have e2 : (xs ++ [x])[xs.length] = x := by simp
   have e3 : (hd ++ [(nm, ws)])[xs.length] = (nm, ws) := by rw [List.getElem_append_right (by rw [h.len]; exact Nat.le_refl _)]; simp [h.len]
   rw [e2, e3]
   exact keep hx
 ·intro i h2
  by_cases hi : i < hd.length
  ·rw [List.getElem_append_left hi]
   exact h.pos i hi
  ·have e1 : i = hd.length := by simp at h2; omega
   subst e1
   simpa using hp
 ·rw [List.map_append, List.nodup_append]
  refine ⟨h.nd, by simp, fun a ha b hb => ?_⟩
  obtain ⟨y, hy, rfl⟩ := List.mem_map.1 ha
  simp at hb
  subst hb
  exact hne y hy
def initG (g : GH) : List Int := if 0 < g.len then List.replicate g.len.toNat 0 else [g.word]
def initH (gs : List GH) : HD := gs.map fun g => (g.name, initG g)
def plG : List GH → Nat → List (ByteArray × Int) → List (ByteArray × Int)
 | [], _, l => l
 | g :: r, i, l => plG r (i + 1) (putM g.name (i : Int) l)
abbrev oldB (n : Nat) : Nat → Bool := fun b => decide (b < n)
theorem cells_old {w w' : World} {B : Nat} (hb : Below w.heap.size w w') (hB : w.heap.size ≤ B) : Cells w (onlyW w' (oldB B)) := fun a u hc => by
 rw [cell_only, if_pos (by have := World.block_lt_of_cell? _ _ hc; simp; omega)]
 exact cell_on hc hb
theorem SigR.sub {w w' : World} {g : Sig} {v : Value} (h : SigR w g v) (hs : Cells w w') : SigR w' g v := by
 obtain ⟨pv, rfl, ka, kb, koff, kcap, h1, h2, h3⟩ := h
 exact ⟨pv, rfl, ka, kb, koff, kcap, h1, h2, fun i hi => ⟨hs _ _ (h3 i hi).1, hs _ _ (h3 i hi).2⟩⟩
theorem CalR.sub {w w' : World} {r : List (ByteArray × Sig)} {l : List (ByteArray × Value)} (h : CalR w r l) (hs : Cells w w') : CalR w' r l := by
 induction h with
 | nil => exact .nil
 | cons h _ ih => exact .cons (h.sub hs) ih
theorem map_only {w : World} {p : Nat → Bool} {b : Nat} {l : List (ByteArray × Value)} (hm : Mp w b l) (hp : p b = true) : Mp (onlyW w p) b l := by
 obtain ⟨es, c, h1, h2⟩ := hm
 exact ⟨es, c, by unfold onlyW; simp only [Array.getElem?_mapIdx, h1, hp, Option.map_some, if_true], h2⟩
theorem map_whole {w : World} {p : Nat → Bool} {b : Nat} {l : List (ByteArray × Value)} (hm : Mp (onlyW w p) b l) (hp : p b = true) : Mp w b l := by
 obtain ⟨es, c, h1, h2⟩ := hm
 refine ⟨es, c, ?_, h2⟩
 unfold onlyW at h1
 simp only [Array.getElem?_mapIdx, hp, if_true] at h1
 cases hq : w.heap[b]? with
 | none => rw [hq] at h1; cases h1
 | some o => rw [hq] at h1; simpa using h1
theorem NmR.only {w w' : World} {B : Nat} {vs : VS} {cs : CSg} {vb cb : Nat} (h : NmR w vs cs vb cb) (hb : Below w.heap.size w w') (hB : w.heap.size ≤ B) : NmR (onlyW w' (oldB B)) vs cs vb cb := by
 obtain ⟨h1, l, h2, h3⟩ := h
 exact ⟨map_only (h1.mono hb) (by have := h1.lt; simp; omega), l, map_only (h2.mono hb) (by have := h2.lt; simp; omega), h3.sub (cells_old hb hB)⟩
structure WoR (w : World) (B : Nat) (u : UT) (vs : VS) (cs : CSg) (pl : List (ByteArray × Int)) (hd : HD) (xs : List Value) (X vb cb pb : Nat) (vg vh vf hv : Value) : Prop where
 box : Bx w X #[vg, vh, vf, .map (some vb), .map (some cb), hv, .map (some pb)] 94
 unit : UIn (onlyW w (oldB B)) false none u (.agg #[vg, vh, vf])
 nm : NmR (onlyW w (oldB B)) vs cs vb cb
 held : HeldR w B hd xs hv
 place : Mp w pb (pl.map fun x => (x.1, Value.int .i64 x.2))
 lX : X < w.heap.size
 lv : vb < B
 lc : cb < B
 lp : pb < B
 lB : B ≤ w.heap.size
def P16 (w : World) (u : UT) (e : Ending) (w' : World) : Prop :=
 Below w.heap.size w w' ∧ ((senseU u ≠ 0 ∧ e = .returned (.tuple #[.pointer none, .int .i64 (senseU u)])) ∨
  (senseU u = 0 ∧ ∃ B vs cs X vb cb pb vg vh vf hv xs, e = .returned (.tuple #[.pointer (some ⟨X, 0, none⟩), .int .i64 0]) ∧ gatU u = some (vs, cs) ∧ w.heap.size ≤ B ∧ w.heap.size ≤ X ∧ WoR w' B u vs cs (plG u.gs 0 []) (initH u.gs) xs X vb cb pb vg vh vf hv))
theorem sense_parts {u : UT} (h : senseU u = 0) : chkU u = 0 ∧ ∃ vs cs, gatU u = some (vs, cs) ∧ u.gs.length ≤ 256 ∧ chFs vs cs u.fs = 0 := by
 unfold senseU at h
 split at h
 ·rename_i hc
  refine ⟨hc, ?_⟩
  split at h
  ·omega
  ·rename_i vs cs hg
   split at h
   ·omega
   ·rename_i hn
    exact ⟨vs, cs, hg, by omega, h⟩
 ·omega
theorem fitsU_glo {u : UT} (h : fitsU u = true) {g : GH} (hg : g ∈ u.gs) : g.len ≤ 4096 := by
 unfold fitsU at h
 simp only [Bool.and_eq_true, List.all_eq_true] at h
 have := h.1 g hg
 simp only [okGH, okG, Bool.and_eq_true, Bool.not_eq_true', decide_eq_false_iff_not] at this
 omega
end
end Go.Proofs.YtlabadkfkbenoaaGreatDoor
