/- Walks and plain laws, merged: SenE ChkE ChkF TreeE. No condition. -/
import Derived.Laws.OwnMore
import Derived.Outline
import Derived.Deep.RegionHeld3
import Derived.Test.YtlabadkfkbenoaaGreatDoorKn01
import Derived.Test.YtlabadkfkbenoaaGreatDoorKn08
import Derived.Test.YtlabadkfkbenoaaGreatDoorProg
import Derived.Test.YtlabadkfkbenoaaGreatDoorKn02
namespace Go.Proofs.YtlabadkfkbenoaaGreatDoor
open Go.RowKit
set_option linter.unusedVariables false
set_option linter.unusedSimpArgs false
set_option maxRecDepth 100000
section
/-- types in memory: a row of their own -/
def KsR (w : World) (ks : List Int) (v : Value) : Prop := ∃ B, w.ownsRow B 40 1 v ks.length (ks.map (Value.int .u8))
theorem KsR.open {w : World} {ks : List Int} {v : Value} (h : KsR w ks v) : ∃ ka kb kc, v = .slice ka ks.length kc ∧ (ks.length = 0 ∨ ka = some ⟨kb, 0, none⟩) ∧ ∀ i (hi : i < ks.length), w.cell? ⟨kb, i, none⟩ = some (.int .u8 ks[i]) := by
 obtain ⟨B, h⟩ := h
 have h2 := h.2
 rcases h2 with ⟨rfl, hn⟩ | ⟨g, cap, cur, rfl, _⟩
 ·exact ⟨none, 0, 0, by rw [hn], .inl hn, fun i hi => by omega⟩
 ·refine ⟨_, g, cap, rfl, .inr rfl, fun i hi => ?_⟩
  have := h.cellAt i (by omega)
  rw [this]
  simp [hi]
theorem KsR.mono {w w' : World} {ks : List Int} {v : Value} (h : KsR w ks v) (hb : Below w.heap.size w w') : KsR w' ks v := by
 obtain ⟨B, h⟩ := h
 exact ⟨B, h.kept (row := none) ⟨hb.os, hb.tape, hb.output, hb.size, fun k hk _ => hb.block k hk⟩ (by cases hq : v.ownBlock; exact .inl rfl; exact .inr (by simp))⟩
def parT (ps : List PW) (ks : List Int) : Bool := (ps.zip ks).all fun x => x.1.2 == x.2
def callT (cs : List (ByteArray × Sig)) (s : ByteArray) (ks : List Int) : Except Int Int :=
 match getM s cs with
 | none => .error 291
 | some g => if g.params.length ≠ ks.length then .error 293 else if parT g.params ks then .ok g.type else .error 292
theorem parT_yes {ps : List PW} {ks : List Int} (hl : ps.length = ks.length) (h : ∀ i (h1 : i < ps.length) (h2 : i < ks.length), ps[i].2 = ks[i]) : parT ps ks = true := by
 unfold parT
 rw [List.all_eq_true]
 intro x hx
 obtain ⟨i, hi, rfl⟩ := List.getElem_of_mem hx
 simp only [List.getElem_zip, beq_iff_eq]
 have hi2 : i < min ps.length ks.length := by simpa using hi
 exact h i (by omega) (by omega)
theorem parT_no {ps : List PW} {ks : List Int} {i : Nat} (h1 : i < ps.length) (h2 : i < ks.length) (h : ¬ ps[i].2 = ks[i]) : parT ps ks = false := by
 unfold parT
 rw [List.all_eq_false]
 refine ⟨(ps[i], ks[i]), ?_, by simpa using h⟩
 rw [List.mem_iff_getElem]
 exact ⟨i, by simp; omega, by simp⟩
set_option maxHeartbeats 4000000 in
theorem call211 (s : ByteArray) (ks : List Int) (kv : Value) (vs : List (ByteArray × (Int × Int))) (cs : List (ByteArray × Sig)) (C : Nat) (ss : List Scope) (vb cb g cap : Nat) (ms : List Nat) (w : World) (h : CkR w vs cs C ss vb cb g cap ms) (hk : KsR w ks kv)
  (hp : ∀ x, getM s cs = some x → x.params.length ≤ 100000000) (hks : ks.length ≤ 100000000) :
  Calls Tryz.prog 211 #[.pointer (some ⟨C, 0, none⟩), .string s, kv] w fun e w' => e = outT (callT cs s ks) ∧ Below w.heap.size w w' := by
 have c1 := h.c1
 have HV := hid (h.nm.call s)
 obtain ⟨ka, kb, kc, rfl, hka, hkc⟩ := hk.open
 have HK := hid hkc
 clear h hk hkc
 rcases HV.out with ⟨e1, l1⟩ | ⟨y, pa, pc, e1, hsl, l1⟩
 ·have hh := hid (show callT cs s ks = .error 291 by unfold callT; rw [e1])
  have c5 := hid (ask_n 291 (w.alloc (.cells #[.slice none 0 0, .int .u8 0, .int .i64 0, .int .i64 0] 114)))
  clear HV e1 hka
  go_enter Tryz.func211, Tryz.ntmps211
  go_wp2_with fail
  refine c5.out.mono ?_
  rintro e w2 ⟨rfl, hw⟩
  subst w2
  clear c5
  go_wp2_with fail
  refine bp_panic ?_
  rw [hh.out]
  exact ⟨rfl, by (repeat (first | exact Below.refl _ _ | refine Below.drew ?_ | refine Below.alloc ?_ (by simp <;> omega) _))⟩
 ·have hpl := hp y e1
  obtain ⟨ps, ty, ho, fn⟩ := y
  simp only [] at hpl l1 hsl
  have c5 := hid (ask_y 291 (w.alloc (.cells #[.slice pa ps.length pc, .int .u8 ty, .int .i64 ho, .int .i64 fn] 114)))
  obtain ⟨ka2, qb, qo, kc2, hq, hqa, hqi⟩ := hsl
  cases hq
  have HQ := hid hqi
  clear HV hqi
  by_cases hlen : ps.length = ks.length
  ·have c6 := hid (ask_y 293 (w.alloc (.cells #[.slice pa ps.length pc, .int .u8 ty, .int .i64 ho, .int .i64 fn] 114)))
   have hN := hid hlen
   have E1 := hid e1
   obtain ⟨n, hn⟩ : ∃ n, n = ks.length := ⟨_, rfl⟩
   have hn2 : ps.length = n := by omega
   have hM := hid hn
   have hM2 := hid hn2
   rw [hn2] at hpl hqa c5 c6 l1
   rw [← hn] at hka hks
   rw [← hn]
   clear e1 hlen hn hn2
   go_enter Tryz.func211, Tryz.ntmps211
   go_wp2_with fail
   refine c5.out.mono ?_
   rintro e w2 ⟨rfl, hw⟩
   subst w2
   clear c5
   go_wp2_with fail
   refine c6.out.mono ?_
   rintro e w2 ⟨rfl, hw⟩
   subst w2
   clear c6
   go_wp2_with fail
   go_loopw [33] (fun y wr => ∃ k : Nat, y = .int .i64 k ∧ k ≤ n ∧ (∀ i (h1 : i < ps.length) (h2 : i < ks.length), i < k → ps[i].2 = ks[i]) ∧ Below w.heap.size w wr ∧ Bx wr w.heap.size #[.slice pa n pc, .int .u8 ty, .int .i64 ho, .int .i64 fn] 114) (fun y _ => n - (intOf y).toNat)
   case atStart => exact ⟨0, rfl, Nat.zero_le _, fun _ _ _ h => by omega, by (repeat (first | exact Below.refl _ _ | refine Below.drew ?_ | refine Below.alloc ?_ (by simp <;> omega) _)), Bx.new _ _ _⟩
   case round =>
    obtain ⟨k, rfl, hk, hpre, hb, hbx⟩ := hrel
    have PRE := hid hpre
    have BX := hid hbx
    have HB := hid hb
    clear hpre hbx hb
    by_cases hlt : k < n
    ·have h1 : k < ps.length := by have := hM2.out; omega
     have h2 : k < ks.length := by have := hM.out; omega
     have x1 := HQ.out k h1
     have x2 := cell_on (HK.out k h2) HB.out
     have x3 := cell_on x1.1 HB.out
     have x4 := cell_on x1.2 HB.out
     have hpa : pa = some ⟨qb, qo, none⟩ := by rcases hqa with q | q; (· omega); (· exact q)
     have hkv : ka = some ⟨kb, 0, none⟩ := by rcases hka with q | q; (· omega); (· exact q)
     subst hpa hkv
     have PRE1 := hid (fun (hq : ps[k].2 = ks[k]) (i : Nat) (h1 : i < ps.length) (h2 : i < ks.length) (h3 : i < k + 1) => by
      rcases Nat.lt_or_eq_of_le (Nat.le_of_lt_succ h3) with q | q
      ·exact PRE.out i h1 h2 q
      ·subst i; exact hq : ps[k].2 = ks[k] → ∀ i (h1 : i < ps.length) (h2 : i < ks.length), i < k + 1 → ps[i].2 = ks[i])
     have NO := hid (fun (hq : ¬ ps[k].2 = ks[k]) => parT_no h1 h2 hq)
     generalize ps[k] = pk at x3 x4 PRE1 NO
     generalize ks[k] = kk at x2 PRE1 NO
     obtain ⟨nm, pt⟩ := pk
     simp only [] at x3 x4 PRE1 NO
     have bel1 := fun {w2 : World} (h : Below (wr.alloc (.cells #[.string nm, .int .u8 pt] 46)).heap.size (wr.alloc (.cells #[.string nm, .int .u8 pt] 46)) w2) => ((Below.refl wr.heap.size wr).alloc (Nat.le_refl _) (.cells #[.string nm, .int .u8 pt] 46)).trans (h.mono (by simp))
     have bx1 := fun {w2 : World} (h : Below (wr.alloc (.cells #[.string nm, .int .u8 pt] 46)).heap.size (wr.alloc (.cells #[.string nm, .int .u8 pt] 46)) w2) => ((Bx.new wr #[.string nm, .int .u8 pt] 46).on (grown_of_below h) (by simp)).cell
     clear x1
     go_wp2_with fail
     refine wp_region_held_drew (S := (Below (wr.alloc (.cells #[.string nm, .int .u8 pt] 46)).heap.size (wr.alloc (.cells #[.string nm, .int .u8 pt] 46)))) (by kernel_rfl) (Below.refl _ _).drew (fun hHeld => ?_)
     refine tk 0 ?_ (hy := ?_) (h := ?_)
     rotate_left
     ·intro w' hSw; go_simp; (try with_reducible rfl)
     try simp only [tpa, tpb, tpc, tpd, tpe]
     refine tk 1 ?_ (hy := ?_) (h := ?_)
     rotate_left
     ·intro w' hSw; have q1 := bx1 hSw 1; simp at q1; go_simp; (try with_reducible rfl)
     try simp only [tpa, tpb, tpc, tpd, tpe]
     refine tk 2 ?_ (hy := ?_) (h := ?_)
     rotate_left
     ·intro w' hSw; go_simp; (try with_reducible rfl)
     try simp only [tpa, tpb, tpc, tpd, tpe]
     refine tk 3 ?_ (hy := ?_) (h := ?_)
     rotate_left
     ·intro w' hSw; go_simp; (try with_reducible rfl)
     try simp only [tpa, tpb, tpc, tpd, tpe]
     refine tk 4 ?_ (hy := ?_) (h := ?_)
     rotate_left
     ·intro w' hSw; go_simp; (try with_reducible rfl)
     try simp only [tpa, tpb, tpc, tpd, tpe]
     refine tk 5 ?_ (hy := ?_) (h := ?_)
     rotate_left
     ·intro w' hSw; have q2 := cell_on x2 (bel1 hSw); go_simp; (try with_reducible rfl)
     try simp only [tpa, tpb, tpc, tpd, tpe]
     refine tk 6 ?_ (hy := ?_) (h := ?_)
     rotate_left
     ·intro w' hSw; go_simp; (try with_reducible rfl)
     try simp only [tpa, tpb, tpc, tpd, tpe]
     refine tr 7 (h := fun K hK => ?_)
     go_simp
     go_at_call 146
     by_cases hpk : pt = kk
     ·subst kk
      have PRE2 := hid (PRE1.out rfl)
      have c7 := hid (ask_y 292 (wr.alloc (.cells #[.string nm, .int .u8 pt] 46)).drew)
      rw [show (pt == pt) = true by simp]
      refine c7.out.mono ?_
      rintro e w2 ⟨rfl, hw⟩
      subst w2
      have hk := (Below.refl (wr.alloc (.cells #[.string nm, .int .u8 pt] 46)).heap.size (wr.alloc (.cells #[.string nm, .int .u8 pt] 46))).drew
      clear hHeld c7
      go_wp2_with fail
      refine hK.out _ _ hk (fun hHeld => ?_)
      clear hK K hk
      try simp only [tpa, tpb, tpc, tpd, tpe]
      refine wpAnyH_done (by kernel_rfl) ?_ _
      go_wp2_with fail
      exact ⟨⟨k + 1, rfl, by omega, PRE2.out, HB.out.trans ((bel1 ((Below.refl _ _).drew)).mono HB.out.size), (BX.out.on (grown_of_below (bel1 ((Below.refl _ _).drew))) (by simp))⟩, by simp only [intOf]; omega⟩
     ·have c7 := hid (ask_n 292 (wr.alloc (.cells #[.string nm, .int .u8 pt] 46)).drew)
      have hh := hid (show callT cs s ks = .error 292 by unfold callT; rw [E1.out]; simp [hN.out, NO.out hpk])
      rw [show (pt == kk) = false by simpa using hpk]
      refine c7.out.mono ?_
      rintro e w2 ⟨rfl, hw⟩
      subst w2
      clear hHeld c7 hK
      go_wp2_with fail
      refine bp_panic ?_
      rw [hh.out]
      exact ⟨rfl, HB.out.trans ((bel1 ((Below.refl _ _).drew)).mono HB.out.size)⟩
    ·have hke : k = n := by omega
     subst k
     have hh := hid (show callT cs s ks = .ok ty by unfold callT; rw [E1.out]; simp [hN.out, parT_yes hN.out (fun i h1 h2 => PRE.out i h1 h2 (by have := hM2.out; omega))])
     have p1 := BX.out.cell 1
     simp at p1
     clear hN E1 hM hM2 PRE
     go_wp2_with fail
     go_ret
     rw [hh.out]
     exact ⟨rfl, HB.out⟩
  ·have hh := hid (show callT cs s ks = .error 293 by unfold callT; rw [e1]; simp [hlen])
   have c6 := hid (ask_n 293 (w.alloc (.cells #[.slice pa ps.length pc, .int .u8 ty, .int .i64 ho, .int .i64 fn] 114)))
   clear e1
   go_enter Tryz.func211, Tryz.ntmps211
   go_wp2_with fail
   refine c5.out.mono ?_
   rintro e w2 ⟨rfl, hw⟩
   subst w2
   clear c5
   go_wp2_with fail
   rw [show (((ps.length : Nat) : Int) == ((ks.length : Nat) : Int)) = false by simp only [beq_eq_false_iff_ne, ne_eq, Int.ofNat_inj]; exact hlen]
   refine c6.out.mono ?_
   rintro e w2 ⟨rfl, hw⟩
   subst w2
   clear c6
   go_wp2_with fail
   refine bp_panic ?_
   rw [hh.out]
   exact ⟨rfl, by (repeat (first | exact Below.refl _ _ | refine Below.drew ?_ | refine Below.alloc ?_ (by simp <;> omega) _))⟩
end
section
open Go.Shelf
def EH.Wf (h : EH) : Prop := (0 ≤ h.word ∧ h.word < 4294967296) ∧ h.name.size ≤ 1048576 ∧ h.sign.size ≤ 1048576
def Exs.Wf : Exs → Prop
 | .nil => True
 | .cons h k r => h.Wf ∧ k.Wf ∧ r.Wf
def okH (h : EH) (n : Nat) : Bool :=
 if h.kind = 1 then bareB 0 h.type h.name h.sign n 0
 else if h.kind = 2 then bareB 0 h.type h.name h.sign n 0 && (finB h.word && decide (h.word < 2147483648))
 else if h.kind = 3 then ((n : Int) == 0) && (bareB h.word h.type ⟨#[]⟩ h.sign n n && nameOk h.name)
 else if h.kind = 4 then ((n : Int) == 1) && (bareB h.word h.type ⟨#[]⟩ h.sign n n && nameOk h.name)
 else if h.kind = 5 then decide ((n : Int) ≤ 15) && (bareB h.word h.type ⟨#[]⟩ h.sign n n && nameOk h.name)
 else if h.kind = 6 then bareB h.word h.type h.name ⟨#[]⟩ n 1 && inList unaL h.sign
 else if h.kind = 7 then bareB h.word h.type h.name ⟨#[]⟩ n 2 && levB h.sign
 else if h.kind = 8 then bareB h.word 0 h.name h.sign n 1 && typeB h.type
 else false
theorem okH_1 (a0 a2 a3 : Int) (a4 a5 : ByteArray) (n : Nat) : okH ⟨a0, 1, a2, a3, a4, a5⟩ n = bareB 0 a3 a4 a5 n 0 := rfl
theorem okH_2 (a0 a2 a3 : Int) (a4 a5 : ByteArray) (n : Nat) : okH ⟨a0, 2, a2, a3, a4, a5⟩ n = (bareB 0 a3 a4 a5 n 0 && (finB a2 && decide (a2 < 2147483648))) := rfl
theorem okH_3 (a0 a2 a3 : Int) (a4 a5 : ByteArray) (n : Nat) : okH ⟨a0, 3, a2, a3, a4, a5⟩ n = (((n : Int) == 0) && (bareB a2 a3 ⟨#[]⟩ a5 n n && nameOk a4)) := rfl
theorem okH_4 (a0 a2 a3 : Int) (a4 a5 : ByteArray) (n : Nat) : okH ⟨a0, 4, a2, a3, a4, a5⟩ n = (((n : Int) == 1) && (bareB a2 a3 ⟨#[]⟩ a5 n n && nameOk a4)) := rfl
theorem okH_5 (a0 a2 a3 : Int) (a4 a5 : ByteArray) (n : Nat) : okH ⟨a0, 5, a2, a3, a4, a5⟩ n = (decide ((n : Int) ≤ 15) && (bareB a2 a3 ⟨#[]⟩ a5 n n && nameOk a4)) := rfl
theorem okH_6 (a0 a2 a3 : Int) (a4 a5 : ByteArray) (n : Nat) : okH ⟨a0, 6, a2, a3, a4, a5⟩ n = (bareB a2 a3 a4 ⟨#[]⟩ n 1 && inList unaL a5) := rfl
theorem okH_7 (a0 a2 a3 : Int) (a4 a5 : ByteArray) (n : Nat) : okH ⟨a0, 7, a2, a3, a4, a5⟩ n = (bareB a2 a3 a4 ⟨#[]⟩ n 2 && levB a5) := rfl
theorem okH_8 (a0 a2 a3 : Int) (a4 a5 : ByteArray) (n : Nat) : okH ⟨a0, 8, a2, a3, a4, a5⟩ n = (bareB a2 0 a4 a5 n 1 && typeB a3) := rfl
theorem okH_0 (a0 a1 a2 a3 : Int) (a4 a5 : ByteArray) (n : Nat) (h : ¬ a1 = 1 ∧ ¬ a1 = 2 ∧ ¬ a1 = 3 ∧ ¬ a1 = 4 ∧ ¬ a1 = 5 ∧ ¬ a1 = 6 ∧ ¬ a1 = 7 ∧ ¬ a1 = 8) : okH ⟨a0, a1, a2, a3, a4, a5⟩ n = false := by
 obtain ⟨h1, h2, h3, h4, h5, h6, h7, h8⟩ := h
 simp only [okH, h1, h2, h3, h4, h5, h6, h7, h8, if_false]
theorem below_own {w wr w2 : World} {o : Obj} (h : Below w.heap.size w wr) (hb : Below (wr.alloc o).heap.size (wr.alloc o) w2) : Below w.heap.size w w2 := (h.alloc h.size o).trans (hb.mono (h.alloc h.size o).size)
theorem bx_own {wr w2 : World} {o : Obj} {q : Nat} {cs : Array Value} {t : TypeId} (hX : Bx wr q cs t) (hb : Below (wr.alloc o).heap.size (wr.alloc o) w2) : Bx w2 q cs t := (hX.on (World.grownBy_alloc wr o none) (by simp)).on (grown_of_below hb) (by simp)
theorem una_in (w : World) : ∀ i (hi : i < unaL.length), (w.alloc (.cells (unaL.map Value.string).toArray 9)).cell? ⟨w.heap.size, i, none⟩ = some (.string unaL[i]) := fun i hi => cell_bx (Bx.new w _ 9) i hi
def okE : Exs → Bool
 | .nil => true
 | .cons h k r => okE k && okH h k.len && okE r
set_option maxHeartbeats 4000000 in
theorem fits45 : ∀ (n : Nat) (t : Int) (h : EH) (kids : Exs) (v : Value) (w : World), kids.sz < n → kids.sz ≤ 100000000 → h.Wf → kids.Wf → SlE w false none kids v →
  Calls Tryz.prog 168 #[aggE t h v] w fun e w' => e = .returned (.bool (okE kids && okH h kids.len)) ∧ Below w.heap.size w w' := by
 intro n
 induction n with
 | zero => intro t h kids v w hn; omega
 | succ n ih =>
  have IH := hid ih
  clear ih
  intro t h kids v w hn hs hwf hkwf hv
  obtain ⟨ka, b, off, c, rfl, hka, hin⟩ := hv
  have hl := kids.len_le
  have hS := hid (And.intro hn hs)
  have hI := hid hin
  have hkb : kids.len ≤ 100000000 := by omega
  have hW := hid hwf
  have hKW := hid hkwf
  obtain ⟨a0, a1, a2, a3, a4, a5⟩ := h
  obtain ⟨len, hlen⟩ : ∃ m, m = kids.len := ⟨_, rfl⟩
  rw [← hlen] at hka hl hkb ⊢
  have hLen := hid hlen
  clear hn hs hin hwf hkwf hlen
  have hX0 := hid (Bx.new w #[.int .i64 t, .int .u8 a1, .int .u32 a2, .int .u8 a3, .string a4, .string a5, .slice ka len c] 134)
  have hB0 := hid ((Below.refl w.heap.size w).alloc (Nat.le_refl _) (.cells #[.int .i64 t, .int .u8 a1, .int .u32 a2, .int .u8 a3, .string a4, .string a5, .slice ka len c] 134))
  go_enter Tryz.func168, Tryz.ntmps168
  go_wp2_with fail
  go_loopw [2, 11] (fun z i wr => ∃ (k : Nat) (r : Exs), z = .bool false ∧ k + r.len = len ∧ i = .int .i64 k ∧ ExsIn w false none r b off k ∧ r.sz ≤ kids.sz ∧ r.Wf ∧ okE kids = okE r ∧ Bx wr w.heap.size #[.int .i64 t, .int .u8 a1, .int .u32 a2, .int .u8 a3, .string a4, .string a5, .slice ka len c] 134 ∧ Below w.heap.size w wr) (fun _ i _ => len - (intOf i).toNat)
  case atStart => exact ⟨0, kids, rfl, by have := hLen.out; omega, rfl, hI.out, Nat.le_refl _, hKW.out, rfl, hX0.out, hB0.out⟩
  case round =>
   clear hI hX0 hB0
   obtain ⟨k, r, rfl, hk, rfl, hr, hz, hrw, hok, hbx, hb⟩ := hrel
   have hX := hid (And.intro hbx hb)
   have hOK := hid hok
   cases r with
   | nil =>
    simp only [Exs.len, Nat.add_zero] at hk
    subst k
    clear hr hz hrw hok hbx hb
    have hkids : Hid (okE kids = true) := hOK
    have p0 := hX.out.1.cell 0
    have p1 := hX.out.1.cell 1
    have p2 := hX.out.1.cell 2
    have p3 := hX.out.1.cell 3
    have p4 := hX.out.1.cell 4
    have p5 := hX.out.1.cell 5
    have p6 := hX.out.1.cell 6
    have pl := hX.out.1.lt
    simp at p0 p1 p2 p3 p4 p5 p6
    by_cases h1 : a1 = 1
    ·subst h1
     go_wp2_with fail
     refine (bare61 t 1 0 a3 a4 a5 ka len c 0 _).mono ?_
     rintro e w2 ⟨rfl, hb2⟩
     have hX2 := hid (bx_own hX.out.1 hb2)
     have hB2 := hid (below_own hX.out.2 hb2)
     clear hb2 p0 p1 p2 p3 p4 p5 p6 pl
     go_wp2_with fail
     go_ret
     exact ⟨ret_bool (by rw [hkids.out]; simp only [okH_1, Bool.true_and, Bool.false_and]), hB2.out⟩
    by_cases h2 : a1 = 2
    ·subst h2
     go_wp2_with fail
     refine (bare61 t 2 0 a3 a4 a5 ka len c 0 _).mono ?_
     rintro e w2 ⟨rfl, hb2⟩
     have hX2 := hid (bx_own hX.out.1 hb2)
     have hB2 := hid (below_own hX.out.2 hb2)
     clear hb2 p0 p1 p2 p3 p4 p5 p6 pl
     have p2 := hX2.out.cell 2
     have p3 := hX2.out.cell 3
     have p4 := hX2.out.cell 4
     have p5 := hX2.out.cell 5
     simp at p2 p3 p4 p5
     cases hbare : bareB 0 a3 a4 a5 len 0
     ·go_wp2_with fail
      go_ret
      exact ⟨ret_bool (by rw [hkids.out]; simp only [okH_2, hbare, Bool.true_and, Bool.false_and]), hB2.out⟩
     have hcf := hid (finite41 a2 hW.out.1 w2)
     go_wp2_with fail
     refine hcf.out.mono ?_
     rintro e w3 ⟨rfl, hw⟩
     subst w3
     cases hf : finB a2
     ·go_wp2_with fail
      go_ret
      exact ⟨ret_bool (by rw [hkids.out]; simp only [okH_2, hbare, hf, Bool.true_and, Bool.false_and]), hB2.out⟩
     go_wp2_with fail
     go_ret
     exact ⟨ret_bool (by rw [hkids.out]; simp only [okH_2, hbare, hf, Bool.true_and, Bool.false_and]), hB2.out⟩
    by_cases h3 : a1 = 3
    ·subst h3
     cases hq : (len : Int) == 0
     ·go_wp2_with fail
      go_ret
      exact ⟨ret_bool (by rw [hkids.out]; simp only [okH_3, hq, Bool.true_and, Bool.false_and]), hX.out.2.alloc hX.out.2.size _⟩
     go_wp2_with fail
     refine (bare61 t 3 a2 a3 ⟨#[]⟩ a5 ka len c len _).mono ?_
     rintro e w2 ⟨rfl, hb2⟩
     have hX2 := hid (bx_own hX.out.1 hb2)
     have hB2 := hid (below_own hX.out.2 hb2)
     clear hb2 p0 p1 p2 p3 p4 p5 p6 pl
     have p2 := hX2.out.cell 2
     have p3 := hX2.out.cell 3
     have p4 := hX2.out.cell 4
     have p5 := hX2.out.cell 5
     simp at p2 p3 p4 p5
     cases hbare : bareB a2 a3 ⟨#[]⟩ a5 len len
     ·go_wp2_with fail
      go_ret
      exact ⟨ret_bool (by rw [hkids.out]; simp only [okH_3, hq, hbare, Bool.true_and, Bool.false_and]), hB2.out⟩
     have hcf := hid (isName29 a4 w2 hW.out.2.1)
     go_wp2_with fail
     refine hcf.out.mono ?_
     rintro e w3 ⟨rfl, hb3⟩
     have hB3 := hid (hB2.out.trans (hb3.mono hB2.out.size))
     clear hb3
     go_wp2_with fail
     go_ret
     exact ⟨ret_bool (by rw [hkids.out]; simp only [okH_3, hq, hbare, Bool.true_and, Bool.false_and]), hB3.out⟩
    by_cases h4 : a1 = 4
    ·subst h4
     cases hq : (len : Int) == 1
     ·go_wp2_with fail
      go_ret
      exact ⟨ret_bool (by rw [hkids.out]; simp only [okH_4, hq, Bool.true_and, Bool.false_and]), hX.out.2.alloc hX.out.2.size _⟩
     go_wp2_with fail
     refine (bare61 t 4 a2 a3 ⟨#[]⟩ a5 ka len c len _).mono ?_
     rintro e w2 ⟨rfl, hb2⟩
     have hX2 := hid (bx_own hX.out.1 hb2)
     have hB2 := hid (below_own hX.out.2 hb2)
     clear hb2 p0 p1 p2 p3 p4 p5 p6 pl
     have p2 := hX2.out.cell 2
     have p3 := hX2.out.cell 3
     have p4 := hX2.out.cell 4
     have p5 := hX2.out.cell 5
     simp at p2 p3 p4 p5
     cases hbare : bareB a2 a3 ⟨#[]⟩ a5 len len
     ·go_wp2_with fail
      go_ret
      exact ⟨ret_bool (by rw [hkids.out]; simp only [okH_4, hq, hbare, Bool.true_and, Bool.false_and]), hB2.out⟩
     have hcf := hid (isName29 a4 w2 hW.out.2.1)
     go_wp2_with fail
     refine hcf.out.mono ?_
     rintro e w3 ⟨rfl, hb3⟩
     have hB3 := hid (hB2.out.trans (hb3.mono hB2.out.size))
     clear hb3
     go_wp2_with fail
     go_ret
     exact ⟨ret_bool (by rw [hkids.out]; simp only [okH_4, hq, hbare, Bool.true_and, Bool.false_and]), hB3.out⟩
    by_cases h5 : a1 = 5
    ·subst h5
     cases hq : decide ((len : Int) ≤ 15)
     ·go_wp2_with fail
      go_ret
      exact ⟨ret_bool (by rw [hkids.out]; simp only [okH_5, hq, Bool.true_and, Bool.false_and]), hX.out.2.alloc hX.out.2.size _⟩
     go_wp2_with fail
     refine (bare61 t 5 a2 a3 ⟨#[]⟩ a5 ka len c len _).mono ?_
     rintro e w2 ⟨rfl, hb2⟩
     have hX2 := hid (bx_own hX.out.1 hb2)
     have hB2 := hid (below_own hX.out.2 hb2)
     clear hb2 p0 p1 p2 p3 p4 p5 p6 pl
     have p2 := hX2.out.cell 2
     have p3 := hX2.out.cell 3
     have p4 := hX2.out.cell 4
     have p5 := hX2.out.cell 5
     simp at p2 p3 p4 p5
     cases hbare : bareB a2 a3 ⟨#[]⟩ a5 len len
     ·go_wp2_with fail
      go_ret
      exact ⟨ret_bool (by rw [hkids.out]; simp only [okH_5, hq, hbare, Bool.true_and, Bool.false_and]), hB2.out⟩
     have hcf := hid (isName29 a4 w2 hW.out.2.1)
     go_wp2_with fail
     refine hcf.out.mono ?_
     rintro e w3 ⟨rfl, hb3⟩
     have hB3 := hid (hB2.out.trans (hb3.mono hB2.out.size))
     clear hb3
     go_wp2_with fail
     go_ret
     exact ⟨ret_bool (by rw [hkids.out]; simp only [okH_5, hq, hbare, Bool.true_and, Bool.false_and]), hB3.out⟩
    by_cases h6 : a1 = 6
    ·subst h6
     go_wp2_with fail
     refine (bare61 t 6 a2 a3 a4 ⟨#[]⟩ ka len c 1 _).mono ?_
     rintro e w2 ⟨rfl, hb2⟩
     have hX2 := hid (bx_own hX.out.1 hb2)
     have hB2 := hid (below_own hX.out.2 hb2)
     clear hb2 p0 p1 p2 p3 p4 p5 p6 pl
     have p2 := hX2.out.cell 2
     have p3 := hX2.out.cell 3
     have p4 := hX2.out.cell 4
     have p5 := hX2.out.cell 5
     simp at p2 p3 p4 p5
     cases hbare : bareB a2 a3 a4 ⟨#[]⟩ len 1
     ·go_wp2_with fail
      go_ret
      exact ⟨ret_bool (by rw [hkids.out]; simp only [okH_6, hbare, Bool.true_and, Bool.false_and]), hB2.out⟩
     have pl2 := hX2.out.lt
     have hcf := hid (contains59 unaL w2.heap.size a5 _ (by decide) (una_in w2))
     go_wp2_with fail
     refine hcf.out.mono ?_
     rintro e w3 ⟨rfl, hw⟩
     subst w3
     go_wp2_with fail
     go_ret
     exact ⟨ret_bool (by rw [hkids.out]; simp only [okH_6, hbare, Bool.true_and, Bool.false_and]), hB2.out.alloc hB2.out.size _⟩
    by_cases h7 : a1 = 7
    ·subst h7
     go_wp2_with fail
     refine (bare61 t 7 a2 a3 a4 ⟨#[]⟩ ka len c 2 _).mono ?_
     rintro e w2 ⟨rfl, hb2⟩
     have hX2 := hid (bx_own hX.out.1 hb2)
     have hB2 := hid (below_own hX.out.2 hb2)
     clear hb2 p0 p1 p2 p3 p4 p5 p6 pl
     have p2 := hX2.out.cell 2
     have p3 := hX2.out.cell 3
     have p4 := hX2.out.cell 4
     have p5 := hX2.out.cell 5
     simp at p2 p3 p4 p5
     cases hbare : bareB a2 a3 a4 ⟨#[]⟩ len 2
     ·go_wp2_with fail
      go_ret
      exact ⟨ret_bool (by rw [hkids.out]; simp only [okH_7, hbare, Bool.true_and, Bool.false_and]), hB2.out⟩
     have hcf := hid (isBinary62 a5 w2)
     go_wp2_with fail
     refine hcf.out.mono ?_
     rintro e w3 ⟨rfl, hb3⟩
     have hB3 := hid (hB2.out.trans (hb3.mono hB2.out.size))
     clear hb3
     go_wp2_with fail
     go_ret
     exact ⟨ret_bool (by rw [hkids.out]; simp only [okH_7, hbare, Bool.true_and, Bool.false_and]), hB3.out⟩
    by_cases h8 : a1 = 8
    ·subst h8
     go_wp2_with fail
     refine (bare61 t 8 a2 0 a4 a5 ka len c 1 _).mono ?_
     rintro e w2 ⟨rfl, hb2⟩
     have hX2 := hid (bx_own hX.out.1 hb2)
     have hB2 := hid (below_own hX.out.2 hb2)
     clear hb2 p0 p1 p2 p3 p4 p5 p6 pl
     have p2 := hX2.out.cell 2
     have p3 := hX2.out.cell 3
     have p4 := hX2.out.cell 4
     have p5 := hX2.out.cell 5
     simp at p2 p3 p4 p5
     cases hbare : bareB a2 0 a4 a5 len 1
     ·go_wp2_with fail
      go_ret
      exact ⟨ret_bool (by rw [hkids.out]; simp only [okH_8, hbare, Bool.true_and, Bool.false_and]), hB2.out⟩
     have hcf := hid (isType30 a3 w2)
     go_wp2_with fail
     refine hcf.out.mono ?_
     rintro e w3 ⟨rfl, hw⟩
     subst w3
     go_wp2_with fail
     go_ret
     exact ⟨ret_bool (by rw [hkids.out]; simp only [okH_8, hbare, Bool.true_and, Bool.false_and]), hB2.out⟩
    have q1 : (a1 == 1) = false := by simpa using h1
    have q2 : (a1 == 2) = false := by simpa using h2
    have q3 : (a1 == 3) = false := by simpa using h3
    have q4 : (a1 == 4) = false := by simpa using h4
    have q5 : (a1 == 5) = false := by simpa using h5
    have q6 : (a1 == 6) = false := by simpa using h6
    have q7 : (a1 == 7) = false := by simpa using h7
    have q8 : (a1 == 8) = false := by simpa using h8
    have hnone := hid (okH_0 t a1 a2 a3 a4 a5 len ⟨h1, h2, h3, h4, h5, h6, h7, h8⟩)
    clear h1 h2 h3 h4 h5 h6 h7 h8
    go_wp2_with fail
    go_ret
    exact ⟨ret_bool (by rw [hkids.out]; exact hnone.out.symm), hX.out.2.alloc hX.out.2.size _⟩
   | cons h' kids' rest =>
    simp only [Exs.len, Exs.sz] at hk hz
    obtain ⟨hw1, hw2, hw3⟩ := hrw
    obtain ⟨⟨⟨t', y0, _⟩, y1, y2, y3, y4, y5⟩, ⟨u, y6, hu⟩, hR⟩ := hr.cons
    have x0 := cell_on y0 hb
    have x1 := cell_on y1 hb
    have x2 := cell_on y2 hb
    have x3 := cell_on y3 hb
    have x4 := cell_on y4 hb
    have x5 := cell_on y5 hb
    have x6 := cell_on y6 hb
    have hkk : k < len := by omega
    have hka2 : ka = some ⟨b, off, none⟩ := by rcases hka with q | q; (· omega); (· exact q.1)
    subst hka2
    obtain ⟨ua, uc, rfl⟩ : ∃ a c, u = .slice a kids'.len c := by obtain ⟨a, _, _, c, e, _⟩ := hu; exact ⟨a, c, e⟩
    have hCall := hid (fun w2 (hb2 : Below wr.heap.size wr w2) => IH.out t' h' kids' (.slice ua kids'.len uc) w2 (by have := hS.out; omega) (by have := hS.out; omega) hw1 hw2 (hu.mono (hb.trans (hb2.mono hb.size))))
    have hRR := hid (And.intro hR (And.intro hz hw3))
    have hal := hid ((Below.refl wr.heap.size wr).alloc (Nat.le_refl _) (.cells #[.int .i64 t', .int .u8 h'.kind, .int .u32 h'.word, .int .u8 h'.type, .string h'.name, .string h'.sign, .slice ua kids'.len uc] 134))
    clear hka hr hu hR hz hb y0 y1 y2 y3 y4 y5 y6 hbx hok hw1 hw2 hw3
    go_wp2_with fail
    refine (hCall.out _ hal.out).mono ?_
    rintro e w2 ⟨rfl, hb2⟩
    have hX2 := hid (And.intro (hX.out.1.on (grown_of_below (hal.out.trans (hb2.mono (by simp)))) (by simp)) (hX.out.2.trans ((hal.out.trans (hb2.mono (by simp))).mono hX.out.2.size)))
    clear hb2 hCall x0 x1 x2 x3 x4 x5 x6 hal
    cases hh : okE kids' && okH h' kids'.len
    ·have hE : Hid (okE kids = false) := hid (by rw [hOK.out]; simp only [okE, hh]; rfl)
     go_wp2_with fail
     go_ret
     exact ⟨ret_bool (by rw [hE.out]; rfl), hX2.out.2⟩
    ·have hE : Hid (okE kids = okE rest) := hid (by rw [hOK.out]; simp only [okE, hh]; rfl)
     go_wp2_with fail
     go_roundw
     case rel => exact ⟨k + 1, rest, rfl, by omega, by go_num, hRR.out.1, by have := hRR.out.2.1; omega, hRR.out.2.2, hE.out, hX2.out.1, hX2.out.2⟩
     case measure => simp [intOf]; omega
end
section
open Go.Shelf
end
section
abbrev aggS (t : Int) (h : SH) (v5 v6 v7 : Value) : Value := .agg #[.int .i64 t, .int .u8 h.kind, .string h.name, .int .u8 h.type, .string h.sign, v5, v6, v7]
end
end Go.Proofs.YtlabadkfkbenoaaGreatDoor
