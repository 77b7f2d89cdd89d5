/- Walks and plain laws, merged: IntP. No condition. -/
import Derived.Test.YtlabadkfkbenoaaGreatDoorKn01
import Derived.Test.YtlabadkfkbenoaaGreatDoorKn35
import Derived.Test.YtlabadkfkbenoaaGreatDoorKn24
namespace Go.Proofs.YtlabadkfkbenoaaGreatDoor
open Go.RowKit
set_option linter.unusedVariables false
set_option linter.unusedSimpArgs false
set_option maxRecDepth 100000
section
open Go.Shelf
theorem RowA.below {w w' : World} {l : List Int} {v : Value} (h : RowA w l v) (hb : Below w.heap.size w w') : RowA w' l v := by
 obtain ⟨aa, ab, ao, ac, h1, h2, h3⟩ := h
 exact ⟨aa, ab, ao, ac, h1, h2, fun i hi => cell_on (h3 i hi) hb⟩
theorem CtR.sigB {p : Pt} {cf : Cf} {u : UT} {n d : Nat} {m : MS} {ve : EvS} {F : Nat} {fb : List BSc} {g cap : Nat} {ms : List Nat} {w : World} (h : CtR p cf u n d m ve F fb g cap ms w) {s : ByteArray} {q : Sig} (hv : getM s cf.cs = some q) :
  ∃ ka kc, SlP (onlyW w (oldB p.B)) q.params (.slice ka q.params.length kc) ∧ ∀ w', Below w.heap.size w w' → (Instr.lookup 89 (.map (some p.cb)) (.string s) false).run Tryz.prog w' = .ok (.agg #[.slice ka q.params.length kc, .int .u8 q.type, .int .i64 q.host, .int .i64 q.fn]) w' := by
 obtain ⟨l, h2, h3⟩ := h.st.nm.calls
 have hm := map_whole h2 (by simpa using h.st.lc)
 rcases h3.get s with ⟨e1, e2⟩ | ⟨g', v, e1, e2, pv, rfl, h5⟩
 ·rw [hv] at e1; cases e1
 ·rw [hv] at e1
  cases e1
  have h6 := h5
  obtain ⟨ka, kb, koff, kc, rfl, -⟩ := h6
  refine ⟨ka, kc, h5, fun w' hb => ?_⟩
  have hl := (hm.mono hb).lookup under89 under9 s _ (zero114 w') false
  rw [e2] at hl
  simpa using hl
theorem SlP.sub {w w' : World} {l : List PW} {v : Value} (h : SlP w l v) (hs : Cells w w') : SlP w' l v := by
 obtain ⟨ka, kb, koff, kcap, h1, h2, h3⟩ := h
 exact ⟨ka, kb, koff, kcap, h1, h2, fun i hi => ⟨hs _ _ (h3 i hi).1, hs _ _ (h3 i hi).2⟩⟩
theorem only_lt {w : World} {B : Nat} {a : Addr} {v : Value} (h : (onlyW w (oldB B)).cell? a = some v) : a.block < B := by
 rw [cell_only] at h
 split at h
 ·rename_i q; simpa using q
 ·cases h
theorem own_weaken {w : World} {base base' : Nat} {e : TypeId} {size k : Nat} {v : Value} {ys : List Value} (h : w.ownsRow base e size v k ys) (hb : base' ≤ base) : w.ownsRow base' e size v k ys := by
 refine ⟨h.1, ?_⟩
 rcases h.2 with q | ⟨g, cap, cur, h1, h2, h3⟩
 ·exact .inl q
 ·exact .inr ⟨g, cap, cur, h1, Nat.le_trans hb h2, h3⟩
theorem KV.event {p : Pt} {ve ve1 : EvS} {w w3 w4 : World} {v' z : Value} {n k : Nat} {xs news : List Value} (h : KV p ve ve1 w w3) (hA : Appended w3 w4 n 127 4 ve1.v v' k 1 xs news) (hz : ∀ b, z.ownBlock = some b → w.heap.size ≤ b) : KV p ve ⟨v', ve1.vas ++ [z]⟩ w (w4.setCell ⟨p.M, 8, none⟩ v') := by
 refine ⟨h.k.chain h.v h.size ((Kpt.gr hA.grown (Nat.le_refl _) fun k e => .inl (.inr e)).trans (Kpt.gr (grown_setCell w4 ⟨p.M, 8, none⟩ v') hA.grown.size fun k e => by cases e; exact .inl (.inl (.inl rfl)))), ?_, fun x hx => ?_⟩
 ·rcases hA.place with q | ⟨b, q, q2, -⟩
  ·rcases h.v.1 with r | ⟨c, r, r2⟩
   ·exact .inl (q.trans r)
   ·exact .inr ⟨c, q.trans r, r2⟩
  ·exact .inr ⟨b, q, Nat.le_trans h.size q2⟩
 ·rcases List.mem_append.1 hx with q | q
  ·exact h.v.2 x q
  ·simp at q
   subst q
   exact .inr hz
theorem exs_drop {l r : List (EH × Exs)} {a : EH × Exs} {j : Nat} (h : a :: r = l.drop j) : l[j]? = some a ∧ r = l.drop (j + 1) := by
 have h1 : (l.drop j)[0]? = some a := by rw [← h]; rfl
 have h2 : (l.drop j).drop 1 = r := by rw [← h]; rfl
 rw [List.getElem?_drop] at h1
 rw [List.drop_drop] at h2
 exact ⟨by simpa using h1, h2.symm⟩
set_option maxHeartbeats 64000000 in
theorem call80 (p : Pt) (cf : Cf) (u : UT) (n : Nat) (shp : List Nat) (k d : Nat) (m : MS) (ve : EvS) (F : Nat) (fb : List BSc) (g cap : Nat) (ms : List Nat) (a0 a2 a3 : Int) (a4 a5 : ByteArray) (kids : Exs) (v : Value) (ty : Int) (w : World) (hOk : cf.Ok) (HF : Hid (WFn p cf u n shp k)) (HE : Hid (WEx p cf u n shp k)) (hx : XT cf (tysF fb) ⟨a0, 5, a2, a3, a4, a5⟩ kids ty) (hkw : kids.Wf) (hv : SlE (onlyW w (oldB p.B)) false none kids v) (hX : CtX p cf u n shp d m ve F fb g cap ms w) (hnl : exprB cf (evl cf k) d (bareF fb) ⟨a0, 5, a2, a3, a4, a5⟩ kids m ≠ .lost) :
  Calls Tryz.prog 80 #[.pointer (some ⟨p.M, 0, none⟩), .pointer (some ⟨F, 0, none⟩), aggE a0 ⟨a0, 5, a2, a3, a4, a5⟩ v] w (PostM p cf.allowed n d w.heap.size ve (fun x => .returned (.int .u32 x)) (exprB cf (evl cf k) d (bareF fb) ⟨a0, 5, a2, a3, a4, a5⟩ kids m) w) := by
 obtain ⟨ka, kc, rfl⟩ := hv.shape'
 obtain ⟨ks, hks, hty⟩ := hx.kinds
 have hn := okH_n hx.ok
 obtain ⟨R, hR⟩ : ∃ x, x = (PostM p cf.allowed n d w.heap.size ve (fun x => .returned (.int .u32 x)) (exprB cf (evl cf k) d (bareF fb) ⟨a0, 5, a2, a3, a4, a5⟩ kids m) w) := ⟨_, rfl⟩
 rw [← hR]
 have HR := hid hR
 clear hR
 simp only [] at hn ⊢
 obtain ⟨q, hq, hql, -⟩ := hx.call rfl
 have hln := hn.2.2.2.2.2 (by trivial)
 obtain ⟨len, hlen⟩ : ∃ z, z = kids.len := ⟨_, rfl⟩
 rw [← hlen] at hv hln hql ⊢
 have hB0 := (Below.refl w.heap.size w).alloc (Nat.le_refl _) (.cells #[.int .i64 a0, .int .u8 5, .int .u32 a2, .int .u8 a3, .string a4, .string a5, .slice ka len kc] 134)
 have hX0 := hX.below hB0
 have hb0 := Bx.new w #[.int .i64 a0, .int .u8 5, .int .u32 a2, .int .u8 a3, .string a4, .string a5, .slice ka len kc] 134
 have hh := hid (show exprB cf (evl cf k) d (bareF fb) ⟨a0, 5, a2, a3, a4, a5⟩ kids m = (evArgs (evl cf k) d (bareF fb) kids m).bind fun args m => (if q.host < 0 then (evl cf k).F d q args m else hostV cf q args m) by rw [exprB_5, hq])
 have hnlA := hid (show evArgs (evl cf k) d (bareF fb) kids m ≠ .lost from Out.of_bind (by rw [← hh.out]; exact hnl))
 have HNL := hid hnl
 have KT : Hid (∀ wr ve1, KV p ve ve1 w wr → SlE (onlyW wr (oldB p.B)) false none kids (.slice ka len kc)) := hid fun wr ve1 hk => hv.sub (hX.c.cells hk.k)
 have KX := hid (And.intro hx.kids (And.intro hks hkw))
 have hwn : n ≤ w.heap.size := hX.c.me.size
 have X0 := hid hX0
 have bb0 := hid hb0
 have V0 := hid (KV.of p ve hB0)
 have Q := hid hq
 have QL := hid hql
 have HLN := hid hlen
 have HWN := hid hwn
 have OK := hid hOk
 clear hx hkw hv hX hnl hks hty hn hB0 hX0 hb0 hq hql hlen hwn hOk
 go_enter Tryz.func80, Tryz.ntmps80
 go_wp2_with fail
 go_loopw [7, 15] (fun z i wr => ∃ (j : Nat) (r : Exs) (l : List Int) (m1 : MS) (ve1 : EvS) (z0 : Value), z0 = z ∧ j + r.len = len ∧ i = .int .i64 j ∧ r.toL = kids.toL.drop j ∧ l.length = j ∧ (∀ x ∈ l, U x) ∧ PreA (evl cf k) d (bareF fb) kids r l m m1 ∧ wr.ownsRow w.heap.size 52 1 z j (l.map (Value.int .u32)) ∧ CtX p cf u n shp d m1 ve1 F fb g cap ms wr ∧ KV p ve ve1 w wr ∧ Bx wr w.heap.size #[.int .i64 a0, .int .u8 5, .int .u32 a2, .int .u8 a3, .string a4, .string a5, .slice ka len kc] 134 ∧ ∀ x ∈ ve1.vas, ∀ b, z.ownBlock = some b → x.ownBlock ≠ some b) (fun _ i _ => len - (intOf i).toNat)
 case atStart => exact ⟨0, kids, [], m, ve, _, rfl, by have := HLN.out; omega, rfl, rfl, rfl, fun x hx => by simp at hx, PreA.start _ _ _ _ _, World.ownsRow_nil _ _ _ _, X0.out, V0.out, bb0.out, fun x _ b h => by cases h⟩
 case round =>
  clear X0 V0 bb0
  obtain ⟨j, r, l, m1, ve1, z0, hz0, hj, rfl, hr, hl, hu, hpre, hown, hX1, hV1, hbx, hva⟩ := hrel
  subst hz0
  have HO := hid hown
  have HX1 := hid hX1
  have HV1 := hid hV1
  have HBX := hid hbx
  have HVA := hid hva
  have HU := hid hu
  have HP := hid hpre
  have HL := hid hl
  have HR2 := hid hr
  have HJ := hid hj
  cases r with
  | nil =>
   have hj2 : j = len := by simpa [Exs.len] using hj
   subst hj2
   have hrow := hid (RowA.of hown (by rw [hl]))
   obtain ⟨za, zb, zo, zc, rfl, -, -⟩ := hrow.out
   have hargs := PreA.done hpre
   have hh := hid (show exprB cf (evl cf k) d (bareF fb) ⟨a0, 5, a2, a3, a4, a5⟩ kids m = (if q.host < 0 then (evl cf k).F d q l m1 else hostV cf q l m1) by rw [hh.out, hargs]; rfl)
   have hb1 := hX1.c.b0
   have hx4 := hX1.c.x4
   have hbx4 : wr.cell? ⟨w.heap.size, 4, none⟩ = some (.string a4) := by simpa using hbx.cell 4
   obtain ⟨pa, pc, hsp, hlk⟩ := hX1.c.sigB Q.out
   have HLK := hid hlk
   have HSP := hid hsp
   clear hr hl hu hpre hown hX1 hV1 hbx hva hj hargs hlk hsp
   obtain ⟨ps, qt, ho, qf⟩ := q
   simp only [] at HLK HSP hh QL
   go_wp2_with fail
   refine wp_region_held_drew (S := (Below wr.heap.size wr)) (by kernel_rfl) (Below.refl _ _).drew (fun hHeld => ?_)
   refine tk 0 ?_ (hy := ?_) (h := ?_)
   rotate_left
   ·intro w' hSw; go_simp; (try with_reducible rfl)
   try simp only [tpa, tpb, tpc, tpd, tpe]
   refine tk 1 ?_ (hy := ?_) (h := ?_)
   rotate_left
   ·intro w' hSw; go_simp; (try with_reducible rfl)
   try simp only [tpa, tpb, tpc, tpd, tpe]
   refine tk 2 ?_ (hy := ?_) (h := ?_)
   rotate_left
   ·intro w' hSw; go_simp; (try with_reducible rfl)
   try simp only [tpa, tpb, tpc, tpd, tpe]
   refine tk 3 ?_ (hy := ?_) (h := ?_)
   rotate_left
   ·intro w' hSw; have q1 := cell_on hb1 hSw; go_simp; (try with_reducible rfl)
   try simp only [tpa, tpb, tpc, tpd, tpe]
   refine tk 4 ?_ (hy := ?_) (h := ?_)
   rotate_left
   ·intro w' hSw; go_simp; (try with_reducible rfl)
   try simp only [tpa, tpb, tpc, tpd, tpe]
   refine tk 5 ?_ (hy := ?_) (h := ?_)
   rotate_left
   ·intro w' hSw; go_simp; (try with_reducible rfl)
   try simp only [tpa, tpb, tpc, tpd, tpe]
   refine tk 6 ?_ (hy := ?_) (h := ?_)
   rotate_left
   ·intro w' hSw; go_simp; (try with_reducible rfl)
   try simp only [tpa, tpb, tpc, tpd, tpe]
   refine tk 7 ?_ (hy := ?_) (h := ?_)
   rotate_left
   ·intro w' hSw; have q1 := cell_on hx4 hSw; go_simp; (try with_reducible rfl)
   try simp only [tpa, tpb, tpc, tpd, tpe]
   refine tk 8 ?_ (hy := ?_) (h := ?_)
   rotate_left
   ·intro w' hSw; go_simp; (try with_reducible rfl)
   try simp only [tpa, tpb, tpc, tpd, tpe]
   refine tk 9 ?_ (hy := ?_) (h := ?_)
   rotate_left
   ·intro w' hSw; have q1 := cell_on hbx4 hSw; go_simp; (try with_reducible rfl)
   try simp only [tpa, tpb, tpc, tpd, tpe]
   refine tk 10 ?_ (hy := ?_) (h := ?_)
   rotate_left
   ·intro w' hSw; have q1 := HLK.out _ hSw; go_simp; (try with_reducible rfl)
   try simp only [tpa, tpb, tpc, tpd, tpe]
   refine tr 11 (h := fun K hK => ?_)
   go_simp
   refine hK.out _ _ (((Below.refl wr.heap.size wr).alloc (Nat.le_refl _) _).drew) (fun hHeld => ?_)
   clear hK K
   try simp only [tpa, tpb, tpc, tpd, tpe]
   refine tr 12 (h := fun K hK => ?_)
   go_simp
   refine hK.out _ _ (((Below.refl wr.heap.size wr).alloc (Nat.le_refl _) _).drew) (fun hHeld => ?_)
   clear hK K
   try simp only [tpa, tpb, tpc, tpd, tpe]
   refine wpAnyH_done (by kernel_rfl) ?_ _
   have hb9 := (Bx.new wr #[.slice pa ps.length pc, .int .u8 qt, .int .i64 ho, .int .i64 qf] 114).on (grownBy_drew _ none) (by simp)
   clear hb1 hx4 hbx4
   generalize (wr.alloc (.cells #[.slice pa ps.length pc, .int .u8 qt, .int .i64 ho, .int .i64 qf] 114)).drew = w1 at hb9 hHeld ⊢
   have HB1 := hid hHeld
   have e92 : w1.cell? ⟨wr.heap.size, 2, none⟩ = some (.int .i64 ho) := by simpa using hb9.cell 2
   have e90 : w1.cell? ⟨wr.heap.size, 0, none⟩ = some (.slice pa ps.length pc) := by simpa using hb9.cell 0
   have e91 : w1.cell? ⟨wr.heap.size, 1, none⟩ = some (.int .u8 qt) := by simpa using hb9.cell 1
   have e93 : w1.cell? ⟨wr.heap.size, 3, none⟩ = some (.int .i64 qf) := by simpa using hb9.cell 3
   have HB9 := hid hb9
   clear hb9 hHeld
   have hX1 := hid (HX1.out.below HB1.out)
   have hV1 := hid (HV1.out.below HB1.out)
   by_cases hneg : ho < 0
   ·have hh := hid (show exprB cf (evl cf k) d (bareF fb) ⟨a0, 5, a2, a3, a4, a5⟩ kids m = (evl cf k).F d ⟨ps, qt, ho, qf⟩ l m1 by rw [hh.out]; exact if_pos hneg)
    have hnlF : (evl cf k).F d ⟨ps, qt, ho, qf⟩ l m1 ≠ .lost := by rw [← hh.out]; exact HNL.out
    have cx := hid (HF.out d m1 ve1 a4 ⟨ps, qt, ho, qf⟩ l (.slice za l.length zc) pa pc w1 Q.out hneg (by rw [HL.out]; exact QL.out.symm) HU.out (hrow.out.below HB1.out) (HSP.out.sub (cells_old_below HB1.out)) hX1.out.c.st hX1.out.c.me hX1.out.c.pos hX1.out.inv hX1.out.rg hnlF)
    have FIN := hid (show ∀ e w2, PostM p cf.allowed n d w1.heap.size ve1 (fun x => .returned (.int .u32 x)) ((evl cf k).F d ⟨ps, qt, ho, qf⟩ l m1) w1 e w2 → R e w2 from fun e w2 h => by rw [HR.out, hh.out]; exact h.chain hV1.out.k hV1.out.v hV1.out.size)
    simp only [] at cx
    have hneg2 : decide (ho < 0) = true := by simpa using hneg
    go_wp2_with fail
    refine cx.out.mono ?_
    intro e w2 hp
    have HPP := hid hp
    cases ho2 : (evl cf k).F d ⟨ps, qt, ho, qf⟩ l m1 with
    | lost => exact absurd ho2 hnlF
    | stop a b m2 =>
     rw [ho2] at hp
     obtain ⟨rfl, -⟩ := hp
     clear cx
     go_wp2_with fail
     refine bp_panic ?_
     exact FIN.out _ _ HPP.out
    | ok x m2 =>
     rw [ho2] at hp
     obtain ⟨rfl, -⟩ := hp
     clear cx
     go_wp2_with fail
     exact FIN.out _ _ HPP.out
   ·obtain ⟨i, rfl⟩ : ∃ i : Nat, ho = i := ⟨ho.toNat, by omega⟩
    obtain ⟨hrec, hhs⟩ := (OK.out.call a4 _ Q.out).2 hneg
    have hh := hid (show exprB cf (evl cf k) d (bareF fb) ⟨a0, 5, a2, a3, a4, a5⟩ kids m = hostV cf ⟨ps, qt, i, qf⟩ l m1 by rw [hh.out]; exact if_neg hneg)
    obtain ⟨ka5, kb5, koff5, kcap5, v1, v2, -, v3⟩ := hX1.out.c.st.vals
    obtain ⟨en, va0, fa, hbM⟩ := hX1.out.c.me.box
    have m2 : w1.cell? ⟨p.M, 2, none⟩ = some (.slice ka5 cf.values.length kcap5) := by rw [← v1]; simpa using hbM.cell 2
    have m7 : w1.cell? ⟨p.M, 7, none⟩ = some (.int .i64 m1.reps) := by simpa using hbM.cell 7
    have m2d : w1.drew.cell? ⟨p.M, 2, none⟩ = some (.slice ka5 cf.values.length kcap5) := cell_on m2 (Below.refl _ _).drew
    have m7d : w1.drew.cell? ⟨p.M, 7, none⟩ = some (.int .i64 m1.reps) := cell_on m7 (Below.refl _ _).drew
    have hneg2 : decide ((i : Int) < 0) = false := by simp
    have HBM := hid hbM
    have V3 := hid v3
    have hrl := hX1.out.inv.reps
    obtain ⟨vl, hvl⟩ : ∃ z, z = cf.values.length := ⟨_, rfl⟩
    rw [← hvl] at m2 m2d v2 hrl
    have HVL := hid hvl
    have HHS := hid hhs
    clear hbM v3 hvl hhs v1 hneg
    by_cases hrep : vl ≤ m1.reps
    ·have hr2 : ((m1.reps : Int) ≥ (vl : Int)) := by omega
     have hz := hid (show exprB cf (evl cf k) d (bareF fb) ⟨a0, 5, a2, a3, a4, a5⟩ kids m = .stop 4 0 m1 by rw [hh.out]; unfold hostV; rw [List.getElem?_eq_none (by have := HVL.out; omega)])
     clear hh e90 e91 e93
     go_wp2_with fail
     go_region
     go_wp2_with fail
     refine bp_panic ?_
     rw [HR.out, hz.out]
     exact fin_stop (hX1.out.c.me.below (Below.refl _ _).drew) (hV1.out.below (Below.refl _ _).drew) rfl
    ·have hr2 : ¬ ((m1.reps : Int) ≥ (vl : Int)) := by omega
     have hlt : m1.reps < vl := by omega
     have hlt2 : m1.reps < cf.values.length := by have := HVL.out; omega
     have hk5 : ka5 = some ⟨kb5, koff5, none⟩ := by rcases v2 with q | q; (· omega); (· exact q)
     subst hk5
     have hz := hid (show exprB cf (evl cf k) d (bareF fb) ⟨a0, 5, a2, a3, a4, a5⟩ kids m = .ok cf.values[m1.reps] { m1 with reps := m1.reps + 1, evs := m1.evs ++ [⟨hrec.number, l, cf.values[m1.reps]⟩] } by rw [hh.out]; unfold hostV; rw [List.getElem?_eq_getElem hlt2]; simp only [Int.toNat_natCast]; rw [show cf.hs[i]? = some hrec from HHS.out])
     have hcv := V3.out m1.reps hlt2
     have hcvd : w1.drew.drew.cell? ⟨kb5, koff5 + m1.reps, none⟩ = some (.int .u32 cf.values[m1.reps]) := cell_on hcv ((Below.refl _ _).drew.trans ((Below.refl _ _).drew.mono (Below.refl w1.heap.size w1).drew.size))
     have m2e : w1.drew.drew.cell? ⟨p.M, 2, none⟩ = some (.slice (some ⟨kb5, koff5, none⟩) vl kcap5) := cell_on m2d (Below.refl _ _).drew
     have m7e : w1.drew.drew.cell? ⟨p.M, 7, none⟩ = some (.int .i64 m1.reps) := cell_on m7d (Below.refl _ _).drew
     have hvb := hX1.out.c.st.vlen
     rw [← HVL.out] at hvb
     have hU := hid (show m1.reps + 1 ≤ 1000000000 by omega)
     generalize cf.values[m1.reps] = rv at hz hcv hcvd
     clear hh e90 e91 e93 v2 hlt2
     go_wp2_with fail
     go_region
     go_wp2_with fail
     go_region
     have hbM := HBM.out
     have f7 : w1.drew.drew.frozen? ⟨p.M, 7, none⟩ = false := (HBM.out.on (grown_of_below (Below.refl _ _).drew) (by simp)).free 7 |> fun h => by simpa using h
     have hw : IntKind.i64.wrap ((m1.reps : Int) + 1) = ((m1.reps + 1 : Nat) : Int) := by rw [IntWalk.i64_in _ (by have := hU.out; omega)]; omega
     clear hbM
     go_wp2_with fail
     have hgM := grown_setCell w1 ⟨p.M, 7, none⟩ (.int .i64 ((m1.reps : Int) + 1))
     have bdd := ((Below.refl (w1.setCell ⟨p.M, 7, none⟩ (.int .i64 ((m1.reps : Int) + 1))).heap.size (w1.setCell ⟨p.M, 7, none⟩ (.int .i64 ((m1.reps : Int) + 1)))).drew).drew
     have KM : KV p ve1 ve1 w1 (w1.setCell ⟨p.M, 7, none⟩ (.int .i64 ((m1.reps : Int) + 1))) := ⟨Kpt.gr hgM (Nat.le_refl _) fun k e => by cases e; exact .inl (.inl (.inl rfl)), Vc.refl _ _⟩
     have KM2 := KM.below bdd
     have M2 := (hX1.out.c.me.turn2 (steps := m1.steps) (reps := m1.reps + 1) (d' := d) hgM ⟨en, va0, fa, by have h := HBM.out.set 7 (.int .i64 ((m1.reps : Int) + 1)); rw [show ((m1.reps : Int) + 1) = ((m1.reps + 1 : Nat) : Int) by omega] at h ⊢; simpa using h⟩).below bdd
     have hne9 : p.M ≠ wr.heap.size := by have := hX1.out.c.me.mlt; have := HWN.out; have := HV1.out.size; omega
     have B2 := (HB9.out.on hgM (by simpa using hne9.symm)).on (grown_of_below bdd) (by simp)
     have R2 := ownsRow_at ((ownsRow_at HO.out HB1.out).kept hgM (.inr fun e => HBM.out.not_row (ownsRow_at HO.out HB1.out) (by decide) e.symm)) bdd
     have XB2 := KM2.k.box hX1.out.c.st.X hX1.out.c.st.X.lt (hX1.out.c.me.notBox hX1.out.c.st.X (by decide) (by decide) (by decide))
     obtain ⟨vg9, vh9, vf9, hv9, -, hsh, -⟩ := hX1.out.c.st.unit
     cases hv9
     obtain ⟨ha, hbk, hof, hcp, hvh, hha, hhi⟩ := SlR.open hsh
     have hlt9 : i < u.hs.length := by rw [hX1.out.c.st.hs]; exact (List.getElem?_eq_some_iff.1 HHS.out).1
     have hrc : u.hs[i] = hrec := by have h := HHS.out; simp only [Int.toNat_natCast, ← hX1.out.c.st.hs] at h; rw [List.getElem?_eq_getElem hlt9] at h; exact Option.some.inj h
     have hnum := (hhi i hlt9).c4
     rw [hrc] at hnum
     have hnum2 := cells_only _ _ _ _ (hX1.out.c.cells KM2.k _ _ hnum)
     have hha2 : ha = some ⟨hbk, hof, none⟩ := by rcases hha with q | q; (· omega); (· exact q)
     subst hha2
     have V2 := hV1.out.trans KM2
     obtain ⟨hl9, hhl9⟩ : ∃ z, z = u.hs.length := ⟨_, rfl⟩
     rw [← hhl9] at hvh hlt9
     have hnold : ¬ p.TE ve1 hbk := hX1.out.c.me.old hX1.out.c.st.M hX1.out.c.st.Bn (only_lt hnum)
     have hV2 := hid V2
     clear bdd KM KM2 hnum hrc hhi hsh hhl9 hcv hcvd m2 m2d m2e m7 m7d m7e f7 hw V2 hne9 hha
     generalize ((w1.setCell ⟨p.M, 7, none⟩ (.int .i64 ((m1.reps : Int) + 1))).drew).drew = w2 at M2 B2 R2 XB2 hV2 hnum2 ⊢
     have nX := M2.notBox XB2 (by decide) (by decide) (by decide)
     have n9 := M2.notBox B2 (by decide) (by decide) (by decide)
     obtain ⟨en2, vx2, fa2, hbM2⟩ := M2.box
     have hM20 : w2.drew.cell? ⟨p.M, 0, none⟩ = some (.pointer (some ⟨p.X, 0, none⟩)) := cell_on (by simpa using hbM2.cell 0) (Below.refl _ _).drew
     have EX := hid (show ∀ w9, Kpt (p.TE ve1) w2.heap.size w2 w9 → w9.cell? ⟨p.X, 1, none⟩ = some (.slice (some ⟨hbk, hof, none⟩) hl9 hcp) from fun w9 hk => hk.at (by rw [← hvh]; simpa using XB2.cell 1) nX)
     have E9 := hid (show ∀ w9, Kpt (p.TE ve1) w2.heap.size w2 w9 → w9.cell? ⟨wr.heap.size, 2, none⟩ = some (.int .i64 i) from fun w9 hk => hk.at (by simpa using B2.cell 2) n9)
     have EN := hid (show ∀ w9, Kpt (p.TE ve1) w2.heap.size w2 w9 → w9.cell? ⟨hbk, hof + i * 5 + 4, none⟩ = some (.int .u32 hrec.number) from fun w9 hk => hk.at hnum2 hnold)
     have M3 := hid (M2.below (Below.refl _ _).drew)
     have R3 := hid (ownsRow_at R2 (Below.refl _ _).drew)
     have V3 := hid (hV2.out.below (Below.refl _ _).drew)
     have K23 := hid (Kpt.of (T := p.TE ve1) (Below.refl w2.heap.size w2).drew)
     have hlt9i : (i : Int) < (hl9 : Int) := by omega
     clear M2 B2 R2 XB2 hnum2 nX n9 hbM2 hnold hvh
     refine wp_region_held_drew (S := (fun w9 => Kpt (p.TE ve1) w2.heap.size w2 w9 ∧ w9.cell? ⟨p.M, 0, none⟩ = some (.pointer (some ⟨p.X, 0, none⟩)))) (by kernel_rfl) ⟨K23.out, hM20⟩ (fun hHeld => ?_)
     generalize w2.drew = w3 at M3 R3 V3 K23 hM20 hHeld ⊢
     refine tk 0 ?_ (hy := ?_) (h := ?_)
     rotate_left
     ·intro w' hSw; go_simp; (try with_reducible rfl)
     try simp only [tpa, tpb, tpc, tpd, tpe]
     refine tk 1 ?_ (hy := ?_) (h := ?_)
     rotate_left
     ·intro w' hSw; go_simp; (try with_reducible rfl)
     try simp only [tpa, tpb, tpc, tpd, tpe]
     refine tk 2 ?_ (hy := ?_) (h := ?_)
     rotate_left
     ·intro w' hSw; go_simp; (try with_reducible rfl)
     try simp only [tpa, tpb, tpc, tpd, tpe]
     refine tk 3 ?_ (hy := ?_) (h := ?_)
     rotate_left
     ·intro w' hSw; go_simp; (try with_reducible rfl)
     try simp only [tpa, tpb, tpc, tpd, tpe]
     refine tk 4 ?_ (hy := ?_) (h := ?_)
     rotate_left
     ·intro w' hSw; go_simp; (try with_reducible rfl)
     try simp only [tpa, tpb, tpc, tpd, tpe]
     refine tk 6 ?_ (hy := ?_) (h := ?_)
     rotate_left
     ·intro w' hSw; go_simp; (try with_reducible rfl)
     try simp only [tpa, tpb, tpc, tpd, tpe]
     refine tk 7 ?_ (hy := ?_) (h := ?_)
     rotate_left
     ·intro w' hSw; go_simp; (try with_reducible rfl)
     try simp only [tpa, tpb, tpc, tpd, tpe]
     refine tk 8 ?_ (hy := ?_) (h := ?_)
     rotate_left
     ·intro w' hSw; go_simp; (try with_reducible rfl)
     try simp only [tpa, tpb, tpc, tpd, tpe]
     refine tk 9 ?_ (hy := ?_) (h := ?_)
     rotate_left
     ·intro w' hSw; have q := hSw.2; go_simp; (try with_reducible rfl)
     try simp only [tpa, tpb, tpc, tpd, tpe]
     refine tk 10 ?_ (hy := ?_) (h := ?_)
     rotate_left
     ·intro w' hSw; go_simp; (try with_reducible rfl)
     try simp only [tpa, tpb, tpc, tpd, tpe]
     refine tk 11 ?_ (hy := ?_) (h := ?_)
     rotate_left
     ·intro w' hSw; go_simp; (try with_reducible rfl)
     try simp only [tpa, tpb, tpc, tpd, tpe]
     refine tk 12 ?_ (hy := ?_) (h := ?_)
     rotate_left
     ·intro w' hSw; go_simp; (try with_reducible rfl)
     try simp only [tpa, tpb, tpc, tpd, tpe]
     refine tk 13 ?_ (hy := ?_) (h := ?_)
     rotate_left
     ·intro w' hSw; have q := EX.out w' hSw.1; go_simp; (try with_reducible rfl)
     try simp only [tpa, tpb, tpc, tpd, tpe]
     refine tk 14 ?_ (hy := ?_) (h := ?_)
     rotate_left
     ·intro w' hSw; go_simp; (try with_reducible rfl)
     try simp only [tpa, tpb, tpc, tpd, tpe]
     refine tk 15 ?_ (hy := ?_) (h := ?_)
     rotate_left
     ·intro w' hSw; have q := E9.out w' hSw.1; go_simp; (try with_reducible rfl)
     try simp only [tpa, tpb, tpc, tpd, tpe]
     refine tk 16 ?_ (hy := ?_) (h := ?_)
     rotate_left
     ·intro w' hSw; go_simp; (try with_reducible rfl)
     try simp only [tpa, tpb, tpc, tpd, tpe]
     refine tk 17 ?_ (hy := ?_) (h := ?_)
     rotate_left
     ·intro w' hSw; go_simp; (try with_reducible rfl)
     try simp only [tpa, tpb, tpc, tpd, tpe]
     refine tk 18 ?_ (hy := ?_) (h := ?_)
     rotate_left
     ·intro w' hSw; have q := EN.out w' hSw.1; go_simp; (try with_reducible rfl)
     try simp only [tpa, tpb, tpc, tpd, tpe]
     refine tk 19 ?_ (hy := ?_) (h := ?_)
     rotate_left
     ·intro w' hSw; go_simp; (try with_reducible rfl)
     try simp only [tpa, tpb, tpc, tpd, tpe]
     refine tk 20 ?_ (hy := ?_) (h := ?_)
     rotate_left
     ·intro w' hSw; go_simp; (try with_reducible rfl)
     try simp only [tpa, tpb, tpc, tpd, tpe]
     refine tk 21 ?_ (hy := ?_) (h := ?_)
     rotate_left
     ·intro w' hSw; go_simp; (try with_reducible rfl)
     try simp only [tpa, tpb, tpc, tpd, tpe]
     obtain ⟨ats, he⟩ := M3.out.evs
     obtain ⟨en3, vx3, fa3, hbM3⟩ := M3.out.box
     have e8 : w3.cell? ⟨p.M, 8, none⟩ = some ve1.v := by simpa using hbM3.cell 8
     have hHe := hid he
     have hEL : m1.evs.length ≤ 1000000000 := by have := hX1.out.inv.evs; have := hU.out; omega
     have hn3 := M3.out.size
     have e8b : (w3.alloc (.cells #[.int .u32 0, .int .u32 hrec.number, .slice za l.length zc, .int .u32 rv] 127)).cell? ⟨p.M, 8, none⟩ = some ve1.v := (hbM3.al _).cell 8
     have S3 := hid hHeld
     clear he
     refine wpAnyH_ready (rs := [5, 22]) (by kernel_rfl) (by simp) ?_
     refine AllReadyH.cons (by simp only [List.getElem?_toArray, List.getElem?_cons_succ, List.getElem?_cons_zero]; rfl) (fun K hK => ?_) (AllReadyH.cons (by simp only [List.getElem?_toArray, List.getElem?_cons_succ, List.getElem?_cons_zero]; rfl) (fun K hK => ?_) AllReadyH.nil)
     ·go_simp
      refine hK.out _ _ S3.out (fun hHeld => ?_)
      clear hK K
      try simp only [tpa, tpb, tpc, tpd, tpe]
      refine tr 22 (h := fun K hK => ?_)
      go_simp
      refine hK.out _ _ (show (fun w9 => Kpt (p.TE ve1) w2.heap.size w2 w9 ∧ w9.cell? ⟨p.M, 0, none⟩ = some (.pointer (some ⟨p.X, 0, none⟩))) (w3.alloc (.cells #[.int .u32 0, .int .u32 hrec.number, .slice za l.length zc, .int .u32 rv] 127)) from ⟨S3.out.1.trans (Kpt.of (((Below.refl w3.heap.size w3).alloc (Nat.le_refl _) _).mono S3.out.1.size)), cell_on S3.out.2 ((Below.refl w3.heap.size w3).alloc (Nat.le_refl _) _)⟩) (fun hHeld => ?_)
      clear hK K
      try simp only [tpa, tpb, tpc, tpd, tpe]
      refine tr 23 (h := fun K hK => ?_)
      refine step_append_str rfl _ _ 54 rfl n 127 127 (.agg #[.int .u32 0, .int .u32 0, .slice none 0 0, .int .u32 0]) 4 40 1 Tryz.underlying54 (by kernel_rfl) rfl (by decide) ve1.v m1.evs.length (evcells m1.evs ve1.vas ats) [.int .u32 0, .int .u32 hrec.number, .slice za l.length zc, .int .u32 rv] (0, 0) hHe.out.row rfl (by simp [Value.oneCell']) (by unfold maxLen; omega) (by omega) hn3 rfl rfl ?_
      intro v' w4 hA
      obtain ⟨na, nc, rfl, -⟩ := own_shape2 hA.own
      have ME := hid (M3.out.event hHe.out hA (by have r3 := R3.out; rw [← HL.out] at r3; exact own_weaken r3 HWN.out))
      have VE := hid (V3.out.event hA (fun b hb => (R3.out.lt b hb).1))
      have hbM4 := hbM3.on hA.grown (hbM3.not_row hHe.out.row (by decide))
      have f84 := hbM4.free 8
      have z84 := hbM4.cell 8
      have z80 : w4.cell? ⟨p.M, 0, none⟩ = some (.pointer (some ⟨p.X, 0, none⟩)) := by simpa using hbM4.cell 0
      simp at z84
      have hk4 := hid (show (fun w9 => Kpt (p.TE ve1) w2.heap.size w2 w9 ∧ w9.cell? ⟨p.M, 0, none⟩ = some (.pointer (some ⟨p.X, 0, none⟩))) w4 from ⟨S3.out.1.trans (Kpt.gr hA.grown S3.out.1.size fun k e => .inl (.inr e)), z80⟩)
      have hk5 := hid (show (fun w9 => Kpt (p.TE ve1) w2.heap.size w2 w9 ∧ w9.cell? ⟨p.M, 0, none⟩ = some (.pointer (some ⟨p.X, 0, none⟩))) (w4.setCell ⟨p.M, 8, none⟩ (.slice na (m1.evs.length + 1) nc)) from ⟨hk4.out.1.trans (Kpt.gr (grown_setCell w4 ⟨p.M, 8, none⟩ (.slice na (m1.evs.length + 1) nc)) hk4.out.1.size fun k e => by cases e; exact .inl (.inl (.inl rfl))), by simpa using (hbM4.set 8 (.slice na (m1.evs.length + 1) nc)).cell 0⟩)
      clear hA hbM4 z80
      refine hK.out _ _ hk4.out (fun hHeld => ?_)
      clear hK K
      try simp only [tpa, tpb, tpc, tpd, tpe]
      refine tk 24 ?_ (hy := ?_) (h := ?_)
      rotate_left
      ·intro w' hSw; go_simp; (try with_reducible rfl)
      try simp only [tpa, tpb, tpc, tpd, tpe]
      refine tk 25 ?_ (hy := ?_) (h := ?_)
      rotate_left
      ·intro w' hSw; go_simp; (try with_reducible rfl)
      try simp only [tpa, tpb, tpc, tpd, tpe]
      refine tk 26 ?_ (hy := ?_) (h := ?_)
      rotate_left
      ·intro w' hSw; go_simp; (try with_reducible rfl)
      try simp only [tpa, tpb, tpc, tpd, tpe]
      refine tr 27 (h := fun K hK => ?_)
      go_simp
      refine hK.out _ _ hk5.out (fun hHeld => ?_)
      clear hK K
      try simp only [tpa, tpb, tpc, tpd, tpe]
      refine wpAnyH_done (by kernel_rfl) ?_ _
      go_wp2_with fail
      rw [HR.out, hz.out]
      exact ⟨rfl, _, ME.out, VE.out.k, VE.out.v⟩
     ·go_simp
      refine hK.out _ _ (show (fun w9 => Kpt (p.TE ve1) w2.heap.size w2 w9 ∧ w9.cell? ⟨p.M, 0, none⟩ = some (.pointer (some ⟨p.X, 0, none⟩))) (w3.alloc (.cells #[.int .u32 0, .int .u32 hrec.number, .slice za l.length zc, .int .u32 rv] 127)) from ⟨S3.out.1.trans (Kpt.of (((Below.refl w3.heap.size w3).alloc (Nat.le_refl _) _).mono S3.out.1.size)), cell_on S3.out.2 ((Below.refl w3.heap.size w3).alloc (Nat.le_refl _) _)⟩) (fun hHeld => ?_)
      clear hK K
      try simp only [tpa, tpb, tpc, tpd, tpe]
      refine tr 5 (h := fun K hK => ?_)
      go_simp
      refine hK.out _ _ (show (fun w9 => Kpt (p.TE ve1) w2.heap.size w2 w9 ∧ w9.cell? ⟨p.M, 0, none⟩ = some (.pointer (some ⟨p.X, 0, none⟩))) (w3.alloc (.cells #[.int .u32 0, .int .u32 hrec.number, .slice za l.length zc, .int .u32 rv] 127)) from ⟨S3.out.1.trans (Kpt.of (((Below.refl w3.heap.size w3).alloc (Nat.le_refl _) _).mono S3.out.1.size)), cell_on S3.out.2 ((Below.refl w3.heap.size w3).alloc (Nat.le_refl _) _)⟩) (fun hHeld => ?_)
      clear hK K
      try simp only [tpa, tpb, tpc, tpd, tpe]
      refine tr 23 (h := fun K hK => ?_)
      refine step_append_str rfl _ _ 54 rfl n 127 127 (.agg #[.int .u32 0, .int .u32 0, .slice none 0 0, .int .u32 0]) 4 40 1 Tryz.underlying54 (by kernel_rfl) rfl (by decide) ve1.v m1.evs.length (evcells m1.evs ve1.vas ats) [.int .u32 0, .int .u32 hrec.number, .slice za l.length zc, .int .u32 rv] (0, 0) hHe.out.row rfl (by simp [Value.oneCell']) (by unfold maxLen; omega) (by omega) hn3 rfl rfl ?_
      intro v' w4 hA
      obtain ⟨na, nc, rfl, -⟩ := own_shape2 hA.own
      have ME := hid (M3.out.event hHe.out hA (by have r3 := R3.out; rw [← HL.out] at r3; exact own_weaken r3 HWN.out))
      have VE := hid (V3.out.event hA (fun b hb => (R3.out.lt b hb).1))
      have hbM4 := hbM3.on hA.grown (hbM3.not_row hHe.out.row (by decide))
      have f84 := hbM4.free 8
      have z84 := hbM4.cell 8
      have z80 : w4.cell? ⟨p.M, 0, none⟩ = some (.pointer (some ⟨p.X, 0, none⟩)) := by simpa using hbM4.cell 0
      simp at z84
      have hk4 := hid (show (fun w9 => Kpt (p.TE ve1) w2.heap.size w2 w9 ∧ w9.cell? ⟨p.M, 0, none⟩ = some (.pointer (some ⟨p.X, 0, none⟩))) w4 from ⟨S3.out.1.trans (Kpt.gr hA.grown S3.out.1.size fun k e => .inl (.inr e)), z80⟩)
      have hk5 := hid (show (fun w9 => Kpt (p.TE ve1) w2.heap.size w2 w9 ∧ w9.cell? ⟨p.M, 0, none⟩ = some (.pointer (some ⟨p.X, 0, none⟩))) (w4.setCell ⟨p.M, 8, none⟩ (.slice na (m1.evs.length + 1) nc)) from ⟨hk4.out.1.trans (Kpt.gr (grown_setCell w4 ⟨p.M, 8, none⟩ (.slice na (m1.evs.length + 1) nc)) hk4.out.1.size fun k e => by cases e; exact .inl (.inl (.inl rfl))), by simpa using (hbM4.set 8 (.slice na (m1.evs.length + 1) nc)).cell 0⟩)
      clear hA hbM4 z80
      refine hK.out _ _ hk4.out (fun hHeld => ?_)
      clear hK K
      try simp only [tpa, tpb, tpc, tpd, tpe]
      refine tk 24 ?_ (hy := ?_) (h := ?_)
      rotate_left
      ·intro w' hSw; go_simp; (try with_reducible rfl)
      try simp only [tpa, tpb, tpc, tpd, tpe]
      refine tk 25 ?_ (hy := ?_) (h := ?_)
      rotate_left
      ·intro w' hSw; go_simp; (try with_reducible rfl)
      try simp only [tpa, tpb, tpc, tpd, tpe]
      refine tk 26 ?_ (hy := ?_) (h := ?_)
      rotate_left
      ·intro w' hSw; go_simp; (try with_reducible rfl)
      try simp only [tpa, tpb, tpc, tpd, tpe]
      refine tr 27 (h := fun K hK => ?_)
      go_simp
      refine hK.out _ _ hk5.out (fun hHeld => ?_)
      clear hK K
      try simp only [tpa, tpb, tpc, tpd, tpe]
      refine wpAnyH_done (by kernel_rfl) ?_ _
      go_wp2_with fail
      rw [HR.out, hz.out]
      exact ⟨rfl, _, ME.out, VE.out.k, VE.out.v⟩
  | cons h0 kk rest =>
   simp only [Exs.len] at hj
   obtain ⟨hgt, hrd⟩ := exs_drop (show (h0, kk) :: rest.toL = kids.toL.drop j from hr)
   obtain ⟨b9, o9, cp9, t, xa, xc, hk1, hk2, hk3⟩ := (KT.out wr ve1 hV1).kid j (h0, kk) hgt
   obtain ⟨rfl, hlk, rfl⟩ : ka = some ⟨b9, o9, none⟩ ∧ len = kids.len ∧ kc = cp9 := by simpa using hk1
   obtain ⟨ty9, hx9, -⟩ := tyE_xt KX.out.1 KX.out.2.1 j (h0, kk) hgt
   obtain ⟨hw9, hw8⟩ := Exs.wf_at KX.out.2.2 j (h0, kk) hgt
   have hnl := HP.out.nl hnlA.out
   have hkid := hk2.sub (cells_only _ _)
   obtain ⟨c0, c1, c2, c3, c4, c5⟩ := h0
   obtain ⟨y0, y1, y2, y3, y4, y5, y6⟩ := hkid
   simp only [] at y1 y2 y3 y4 y5 y6
   have BW := hid ((Below.refl wr.heap.size wr).alloc (Nat.le_refl _) (.cells #[.int .i64 t, .int .u8 c1, .int .u32 c2, .int .u8 c3, .string c4, .string c5, .slice xa kk.len xc] 134))
   have XB := hid (hX1.below BW.out)
   have cx := hid (HE.out d m1 ve1 F fb g cap ms t ⟨c0, c1, c2, c3, c4, c5⟩ kk (.slice xa kk.len xc) ty9 _ hx9 hw9 hw8 (hk3.sub (cells_old_below BW.out)) XB.out hnl)
   have HRD := hid hrd
   have hjl : j < len := by omega
   have z6 : wr.cell? ⟨w.heap.size, 6, none⟩ = some (.slice (some ⟨b9, o9, none⟩) len kc) := by simpa using hbx.cell 6
   have hlim : len ≤ 15 := hln
   have HRL := hid hj
   clear hk1 hk2 hk3 hx9 hw9 hw8 hr hl hu hpre hown hX1 hV1 hbx hva hgt hrd hj hlk HLN hln
   go_wp2_with fail
   refine cx.out.mono ?_
   intro e w2 hp
   clear cx
   cases ho : (evl cf k).E d (bareF fb) ⟨c0, c1, c2, c3, c4, c5⟩ kk m1 with
   | lost => exact absurd ho hnl
   | stop a b m2 =>
    rw [ho] at hp
    obtain ⟨rfl, ve2, d2, hM2, hV2⟩ := hp
    have hz := hid (show exprB cf (evl cf k) d (bareF fb) ⟨a0, 5, a2, a3, a4, a5⟩ kids m = .stop a b m2 by rw [hh.out, HP.out.stop ho]; rfl)
    have F1 : Hid (PostM p cf.allowed n d w.heap.size ve (fun x => .returned (.int .u32 x)) (.stop a b m2) w (endE a b) w2) := hid (fin_stop hM2 (HV1.out.trans ((KV.of p ve1 BW.out).trans hV2)) rfl)
    clear hM2 hV2 ho hnl hh
    go_wp2_with fail
    refine bp_panic ?_
    rw [HR.out, hz.out]
    exact F1.out
   | ok x m2 =>
    rw [ho] at hp
    obtain ⟨rfl, hU2, ve2, hX2, hV2⟩ := hp
    have hO2 := hid (XB.out.rowKeep (ownsRow_at HO.out BW.out) HWN.out hV2)
    have hzl := hid (fun b hb => (ownsRow_at HO.out BW.out).lt b hb)
    have hsz : w.heap.size ≤ w2.heap.size := Nat.le_trans HV1.out.size (Nat.le_trans BW.out.size hV2.size)
    have hva2 := hid (show ∀ y ∈ ve2.vas, ∀ b, z0.ownBlock = some b → y.ownBlock ≠ some b from fun y hy b hb e => by
     rcases hV2.v.2 y hy with q | q
     ·exact HVA.out y q b hb e
     ·have h1 := q b e
      have h2 := (hzl.out b hb).2
      omega)
    have V2 := hid (HV1.out.trans ((KV.of p ve1 BW.out).trans hV2))
    have X2 := hid hX2
    have bx2 := hid (hV2.k.box (HBX.out.on (grown_of_below BW.out) (by simp)) (HBX.out.on (grown_of_below BW.out) (by simp)).lt (XB.out.c.me.notBox (HBX.out.on (grown_of_below BW.out) (by simp)) (by decide) (by decide) (by decide)))
    have PS := hid (HP.out.step ho)
    have UU := hid hU2
    clear hX2 hV2 ho hnl hU2
    go_wp2_with (at_builtin; refine wpList_append_str rfl _ _ 27 rfl w.heap.size 52 52 (.int .u32 0) 1 4 1 Tryz.underlying27 (by kernel_rfl) rfl (by decide) _ j _ [_] (0, 0) hO2.out rfl (by simp [Value.oneCell']) (by unfold maxLen; omega) (by omega) hsz rfl rfl ?_; intro v' w' hA; have hA' := hid hA; clear hA)
    exact ⟨⟨j + 1, rest, l ++ [x], m2, ve2, _, rfl, by have := HRL.out; omega, by go_num, HRD.out, by simp [HL.out], fun y hy => (List.mem_append.1 hy).elim (HU.out y) (fun q => by simp at q; subst q; exact UU.out), PS.out, by simpa using hA'.out.own, X2.out.row52 hO2.out HWN.out hva2.out hA'.out.grown, ⟨V2.out.k.trans (Kpt.gr hA'.out.grown V2.out.size fun k e => .inr (hO2.out.lt k e).1), V2.out.v⟩, bx2.out.on hA'.out.grown (bx2.out.not_row hO2.out (by decide)), fun y hy b hb e => by
     rcases hA'.out.place with q | ⟨g9, q, q2, -⟩
     ·exact hva2.out y hy b (q ▸ hb) e
     ·rw [q] at hb
      cases hb
      have := X2.out.c.me.vasLt hy e
      omega⟩, by simp only [intOf]; omega⟩
end
end Go.Proofs.YtlabadkfkbenoaaGreatDoor
