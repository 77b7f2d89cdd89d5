/- Walks and plain laws, merged: SenF SenG. No condition. -/
import Derived.Test.YtlabadkfkbenoaaGreatDoorKn01
import Derived.Test.YtlabadkfkbenoaaGreatDoorKn09
import Derived.Test.YtlabadkfkbenoaaGreatDoorKn13
import Derived.Outline
import Derived.Deep.RegionHeld3
namespace Go.Proofs.YtlabadkfkbenoaaGreatDoor
open Go.RowKit
set_option linter.unusedVariables false
set_option linter.unusedSimpArgs false
set_option maxRecDepth 100000
section
open Go.Shelf
section
variable (vs : List (ByteArray × (Int × Int))) (cs : List (ByteArray × Sig)) (ss : List Scope)
def tyH (h : EH) (ks : List Int) : Except Int Int :=
 if h.kind = 2 then .ok 2
 else if h.kind = 3 then varT vs ss h.name
 else if h.kind = 4 then match arrT vs ss h.name with
  | .error e => .error e
  | .ok t => if ks.getD 0 0 = 1 then .ok t else .error 292
 else if h.kind = 5 then callT cs h.name ks
 else if h.kind = 6 then if (h.sign.toList == [45] || ks.getD 0 0 == 1) then .ok (ks.getD 0 0) else .error 292
 else if h.kind = 7 then binT h.sign (ks.getD 0 0) (ks.getD 1 0)
 else if h.kind = 8 then .ok h.type
 else .ok 1
/-- the types of expressions, or the first fault -/
def tyE : Exs → Except Int (List Int)
 | .nil => .ok []
 | .cons h k r => match tyE k with
  | .error e => .error e
  | .ok ks => match tyH vs cs ss h ks with
   | .error e => .error e
   | .ok t => match tyE r with
    | .error e => .error e
    | .ok ts => .ok (t :: ts)
def tyX (h : EH) (k : Exs) : Except Int Int := match tyE vs cs ss k with
 | .error e => .error e
 | .ok ks => tyH vs cs ss h ks
end
/-- are there kids enough? -/
def arH (k : Int) (n : Nat) : Bool := if k = 4 ∨ k = 6 then decide (1 ≤ n) else if k = 7 then decide (2 ≤ n) else true
def arE : Exs → Bool
 | .nil => true
 | .cons h k r => arE k && arH h.kind k.len && arE r
theorem arH_4 (n : Nat) : arH 4 n = decide (1 ≤ n) := rfl
theorem arH_6 (n : Nat) : arH 6 n = decide (1 ≤ n) := rfl
theorem arH_7 (n : Nat) : arH 7 n = decide (2 ≤ n) := rfl
def pre (ts : List Int) : Except Int (List Int) → Except Int (List Int)
 | .error e => .error e
 | .ok l => .ok (ts ++ l)
theorem tyE_ok {vs : List (ByteArray × (Int × Int))} {cs : List (ByteArray × Sig)} {ss : List Scope} {h : EH} {k r : Exs} {t : Int} {ts : List Int} (hx : tyX vs cs ss h k = .ok t) : pre ts (tyE vs cs ss (.cons h k r)) = pre (ts ++ [t]) (tyE vs cs ss r) := by
 unfold tyX at hx
 simp only [tyE]
 cases hk : tyE vs cs ss k with
 | error e => rw [hk] at hx; cases hx
 | ok ks =>
  rw [hk] at hx
  simp only [] at hx ⊢
  rw [hx]
  cases tyE vs cs ss r <;> simp [pre]
theorem tyE_no {vs : List (ByteArray × (Int × Int))} {cs : List (ByteArray × Sig)} {ss : List Scope} {h : EH} {k r : Exs} {e : Int} {ts : List Int} (hx : tyX vs cs ss h k = .error e) : pre ts (tyE vs cs ss (.cons h k r)) = .error e := by
 unfold tyX at hx
 simp only [tyE]
 cases hk : tyE vs cs ss k with
 | error e => rw [hk] at hx; cases hx; rfl
 | ok ks =>
  rw [hk] at hx
  simp only [] at hx ⊢
  rw [hx]
  rfl
theorem app_below {w w' : World} {base : Nat} {e : TypeId} {size : Nat} {v v' : Value} {n m : Nat} {xs news : List Value} (hA : Appended w w' base e size v v' n m xs news) (hown : w.ownsRow base e size v n xs) (hb : base ≤ w.heap.size) : Below base w w' :=
 (Below.refl base w).grown hA.grown hb (fun k hk => (hown.lt k hk).1)
theorem Bx.not_row {w : World} {q : Nat} {cs : Array Value} {t e : TypeId} (h : Bx w q cs t) {base size n : Nat} {v : Value} {xs : List Value} (hown : w.ownsRow base e size v n xs) (hte : t ≠ e) : some q ≠ v.ownBlock := fun hq => by
 rcases hown.2 with ⟨rfl, _⟩ | ⟨g, cap, cur, rfl, _, hg, _⟩
 ·cases hq
 ·simp only [Value.ownBlock, Option.some.injEq] at hq
  subst hq
  unfold Bx at h
  rw [h] at hg
  simp at hg
  exact hte hg.2
theorem ownsRow_at {w w' : World} {base : Nat} {e : TypeId} {size : Nat} {v : Value} {n : Nat} {xs : List Value} (h : w.ownsRow base e size v n xs) (hb : Below w.heap.size w w') : w'.ownsRow base e size v n xs :=
 h.kept (row := none) (grown_of_below hb) (by cases hq : v.ownBlock; exact .inl rfl; exact .inr (by simp))
def PreOf (vs : List (ByteArray × (Int × Int))) (cs : List (ByteArray × Sig)) (ss : List Scope) (l r : Exs) (ts : List Int) : Prop := tyE vs cs ss l = pre ts (tyE vs cs ss r)
set_option maxHeartbeats 8000000 in
theorem expr169 (vs : List (ByteArray × (Int × Int))) (cs : List (ByteArray × Sig)) (C : Nat) (ss : List Scope) (vb cb g cap : Nat) (ms : List Nat)
  (hp : Hid (∀ s x, getM s cs = some x → x.params.length ≤ 100000000)) : ∀ (n : Nat) (t : Int) (h : EH) (kids : Exs) (v : Value) (w : World), kids.sz < n → kids.sz ≤ 100000000 → arE kids = true → arH h.kind kids.len = true → SlE w false none kids v → CkR w vs cs C ss vb cb g cap ms →
  Calls Tryz.prog 169 #[.pointer (some ⟨C, 0, none⟩), aggE t h v] w fun e w' => e = outT (tyX vs cs ss h kids) ∧ Below w.heap.size w w' := by
 intro n
 induction n with
 | zero => intro t h kids v w hn; omega
 | succ n ih =>
  have IH := hid ih
  clear ih
  intro t h kids v w hn hs har harh hv hck
  obtain ⟨ka, b, off, c, rfl, hka, hin⟩ := hv
  have hl := kids.len_le
  have hS := hid (And.intro hn hs)
  have hI := hid hin
  have hkb : kids.len ≤ 100000000 := by omega
  have AR := hid har
  have ARH := hid harh
  have CK := hid hck
  obtain ⟨a0, a1, a2, a3, a4, a5⟩ := h
  obtain ⟨len, hlen⟩ : ∃ m, m = kids.len := ⟨_, rfl⟩
  rw [← hlen] at hka hl hkb ⊢
  have hLen := hid hlen
  clear hn hs hin har harh hlen hck
  have hX0 := hid (Bx.new w #[.int .i64 t, .int .u8 a1, .int .u32 a2, .int .u8 a3, .string a4, .string a5, .slice ka len c] 134)
  have hB0 := hid ((Below.refl w.heap.size w).alloc (Nat.le_refl _) (.cells #[.int .i64 t, .int .u8 a1, .int .u32 a2, .int .u8 a3, .string a4, .string a5, .slice ka len c] 134))
  go_enter Tryz.func169, Tryz.ntmps169
  go_wp2_with fail
  go_loopw [5, 12] (fun z i wr => ∃ (k : Nat) (r : Exs) (ts : List Int) (z0 : Value), z0 = z ∧ k + r.len = len ∧ i = .int .i64 k ∧ ExsIn w false none r b off k ∧ r.sz ≤ kids.sz ∧ arE r = true ∧ ts.length = k ∧ PreOf vs cs ss kids r ts ∧ wr.ownsRow w.heap.size 40 1 z k (ts.map (Value.int .u8)) ∧ Bx wr w.heap.size #[.int .i64 t, .int .u8 a1, .int .u32 a2, .int .u8 a3, .string a4, .string a5, .slice ka len c] 134 ∧ Below w.heap.size w wr) (fun _ i _ => len - (intOf i).toNat)
  case atStart => exact ⟨0, kids, [], _, rfl, by have := hLen.out; omega, rfl, hI.out, Nat.le_refl _, AR.out, rfl, by unfold PreOf; cases tyE vs cs ss kids <;> rfl, World.ownsRow_nil _ _ _ _, hX0.out, hB0.out⟩
  case round =>
   clear hI hX0 hB0
   obtain ⟨k, r, ts, z0, hz0, hk, rfl, hr, hz, hra, htl, hpre, hown, hbx, hb⟩ := hrel
   subst z0
   have hX := hid (And.intro hbx hb)
   have hO := hid hown
   have hP := hid hpre
   have hTL := hid htl
   have hSz := hid hz
   cases r with
   | nil =>
    simp only [Exs.len, Nat.add_zero] at hk
    clear hr hz hra hbx hb hpre hown htl
    obtain rfl : len = k := hk.symm
    have hkids := hid (show tyE vs cs ss kids = .ok ts by have := hP.out; unfold PreOf at this; rw [this]; simp [tyE, pre])
    have hKS0 := (show KsR wr ts _ from ⟨w.heap.size, by rw [hTL.out]; exact hO.out⟩)
    obtain ⟨xa, xb, xc, rfl, hxa, hxc⟩ := hKS0.open
    have hXC := hid hxc
    clear hxc
    rw [hTL.out] at hxa
    rw [hTL.out]
    rw [hTL.out] at hKS0
    have hKS := hid hKS0
    clear hKS0
    have CKr := hid (CK.out.mono hX.out.2)
    have p1 := hX.out.1.cell 1
    have p3 := hX.out.1.cell 3
    have p4 := hX.out.1.cell 4
    have p5 := hX.out.1.cell 5
    simp at p1 p3 p4 p5
    have TX := hid (show ∀ x, tyH vs cs ss ⟨a0, a1, a2, a3, a4, a5⟩ ts = x → tyX vs cs ss ⟨a0, a1, a2, a3, a4, a5⟩ kids = x from fun x hx => by unfold tyX; rw [hkids.out]; exact hx)
    by_cases h2 : a1 = 2
    ·subst h2
     have hh := hid (TX.out (.ok 2) rfl)
     go_wp2_with fail
     go_ret
     rw [hh.out]
     exact ⟨rfl, hX.out.2⟩
    by_cases h3 : a1 = 3
    ·subst h3
     cases hq : varT vs ss a4 with
     | error er =>
      have hh := hid (TX.out (.error er) hq)
      have cx := hid (variable171 a4 vs cs C ss vb cb g cap ms wr CKr.out)
      rw [hq] at cx
      go_wp2_with fail
      refine cx.out.mono ?_
      rintro e w2 ⟨he, hb2⟩
      obtain rfl : e = flt er := he
      have hB2 := hid hb2
      clear hb2 cx
      go_wp2_with fail
      refine bp_panic ?_
      rw [hh.out]
      exact ⟨rfl, hX.out.2.trans (hB2.out.mono hX.out.2.size)⟩
     | ok ty =>
      have hh := hid (TX.out (.ok ty) hq)
      have cx := hid (variable171 a4 vs cs C ss vb cb g cap ms wr CKr.out)
      rw [hq] at cx
      go_wp2_with fail
      refine cx.out.mono ?_
      rintro e w2 ⟨he, hb2⟩
      obtain rfl : e = .returned (.int .u8 ty) := he
      have hB2 := hid hb2
      clear hb2 cx
      go_wp2_with fail
      go_ret
      rw [hh.out]
      exact ⟨rfl, hX.out.2.trans (hB2.out.mono hX.out.2.size)⟩
    by_cases h4 : a1 = 4
    ·subst h4
     have hl0 : 0 < ts.length := by have := ARH.out; have h2 := hLen.out; rw [arH_4] at this; simp at this; have := hTL.out; omega
     have z0 := hXC.out 0 hl0
     have hg0 : ts.getD 0 0 = ts[0] := by simp [hl0]
     clear hXC
     generalize ts[0] = k0 at z0 hg0
     have hxa2 : xa = some ⟨xb, 0, none⟩ := by rcases hxa with q | q; (· have := hTL.out; omega); (· exact q)
     subst xa
     have hlen0 : 0 < len := by have := hTL.out; omega
     cases hq : arrT vs ss a4 with
     | error er =>
      have hh := hid (TX.out (.error er) (by simp [tyH, hq]))
      have cx := hid (array173 a4 vs cs C ss vb cb g cap ms wr CKr.out)
      rw [hq] at cx
      go_wp2_with fail
      refine cx.out.mono ?_
      rintro e w2 ⟨he, hb2⟩
      obtain rfl : e = flt er := he
      have hB2 := hid hb2
      clear hb2 cx
      go_wp2_with fail
      refine bp_panic ?_
      rw [hh.out]
      exact ⟨rfl, hX.out.2.trans (hB2.out.mono hX.out.2.size)⟩
     | ok ty =>
      have cx := hid (array173 a4 vs cs C ss vb cb g cap ms wr CKr.out)
      rw [hq] at cx
      go_wp2_with fail
      refine cx.out.mono ?_
      rintro e w2 ⟨he, hb2⟩
      obtain rfl : e = .returned (.int .u8 ty) := he
      have hB2 := hid hb2
      have z1 := cell_on z0 hb2
      clear hb2 cx
      by_cases hk1 : k0 = 1
      ·subst hk1
       have hh := hid (TX.out (.ok ty) (by simp only [tyH]; rw [hq, hg0]; simp))
       clear hg0
       have c5 := hid (ask_y 292 w2)
       go_wp2_with fail
       refine c5.out.mono ?_
       rintro e w3 ⟨rfl, hw⟩
       subst w3
       clear c5
       go_wp2_with fail
       go_ret
       rw [hh.out]
       exact ⟨rfl, hX.out.2.trans (hB2.out.mono hX.out.2.size)⟩
      ·have hh := hid (TX.out (.error 292) (by simp only [tyH]; rw [hq, hg0]; simp [hk1]))
       clear hg0
       have c5 := hid (ask_n 292 w2)
       go_wp2_with fail
       rw [show (k0 == 1) = false by simpa using hk1]
       refine c5.out.mono ?_
       rintro e w3 ⟨rfl, hw⟩
       subst w3
       clear c5
       go_wp2_with fail
       refine bp_panic ?_
       rw [hh.out]
       exact ⟨rfl, hX.out.2.trans (hB2.out.mono hX.out.2.size)⟩
    by_cases h5 : a1 = 5
    ·subst h5
     cases hq : callT cs a4 ts with
     | error er =>
      have hh := hid (TX.out (.error er) hq)
      have cx := hid (by have := call211 a4 ts (.slice xa len xc) vs cs C ss vb cb g cap ms wr CKr.out hKS.out (hp.out a4) (by have := hTL.out; omega); exact this)
      rw [hq] at cx
      go_wp2_with fail
      refine cx.out.mono ?_
      rintro e w2 ⟨he, hb2⟩
      obtain rfl : e = flt er := he
      have hB2 := hid hb2
      clear hb2 cx
      go_wp2_with fail
      refine bp_panic ?_
      rw [hh.out]
      exact ⟨rfl, hX.out.2.trans (hB2.out.mono hX.out.2.size)⟩
     | ok ty =>
      have hh := hid (TX.out (.ok ty) hq)
      have cx := hid (by have := call211 a4 ts (.slice xa len xc) vs cs C ss vb cb g cap ms wr CKr.out hKS.out (hp.out a4) (by have := hTL.out; omega); exact this)
      rw [hq] at cx
      go_wp2_with fail
      refine cx.out.mono ?_
      rintro e w2 ⟨he, hb2⟩
      obtain rfl : e = .returned (.int .u8 ty) := he
      have hB2 := hid hb2
      clear hb2 cx
      go_wp2_with fail
      go_ret
      rw [hh.out]
      exact ⟨rfl, hX.out.2.trans (hB2.out.mono hX.out.2.size)⟩
    by_cases h6 : a1 = 6
    ·subst h6
     have hl0 : 0 < ts.length := by have := ARH.out; have h2 := hLen.out; rw [arH_6] at this; simp at this; have := hTL.out; omega
     have z0 := hXC.out 0 hl0
     have hg0 : ts.getD 0 0 = ts[0] := by simp [hl0]
     clear hXC
     generalize ts[0] = k0 at z0 hg0
     have hxa2 : xa = some ⟨xb, 0, none⟩ := by rcases hxa with q | q; (· have := hTL.out; omega); (· exact q)
     subst xa
     have hlen0 : 0 < len := by have := hTL.out; omega
     cases h45 : a5.toList == [45]
     case true =>
      have hh := hid (TX.out (.ok k0) (by simp only [tyH]; rw [hg0]; simp [h45]))
      clear hg0
      have c5 := hid (ask_y 292 wr)
      go_wp2_with fail
      refine c5.out.mono ?_
      rintro e w3 ⟨rfl, hw⟩
      subst w3
      clear c5
      go_wp2_with fail
      go_ret
      rw [hh.out]
      exact ⟨rfl, hX.out.2⟩
     case false =>
      by_cases hk1 : k0 = 1
      ·subst hk1
       have hh := hid (TX.out (.ok 1) (by simp only [tyH]; rw [hg0]; simp [h45]))
       clear hg0
       have c5 := hid (ask_y 292 wr)
       go_wp2_with fail
       refine c5.out.mono ?_
       rintro e w3 ⟨rfl, hw⟩
       subst w3
       clear c5
       go_wp2_with fail
       go_ret
       rw [hh.out]
       exact ⟨rfl, hX.out.2⟩
      ·have hh := hid (TX.out (.error 292) (by simp only [tyH]; rw [hg0, h45]; simp [hk1]))
       clear hg0
       have c5 := hid (ask_n 292 wr)
       go_wp2_with fail
       rw [show (k0 == 1) = false by simpa using hk1]
       refine c5.out.mono ?_
       rintro e w3 ⟨rfl, hw⟩
       subst w3
       clear c5
       go_wp2_with fail
       refine bp_panic ?_
       rw [hh.out]
       exact ⟨rfl, hX.out.2⟩
    by_cases h7 : a1 = 7
    ·subst h7
     have hl1 : 1 < ts.length := by have := ARH.out; have h2 := hLen.out; rw [arH_7] at this; simp at this; have := hTL.out; omega
     have hl0 : 0 < ts.length := by omega
     have z0 := hXC.out 0 hl0
     have hg0 : ts.getD 0 0 = ts[0] := by simp [hl0]
     have z1 := hXC.out 1 hl1
     have hg1 : ts.getD 1 0 = ts[1] := by simp [hl1]
     clear hXC
     generalize ts[0] = k0 at z0 hg0
     generalize ts[1] = k1 at z1 hg1
     have hxa2 : xa = some ⟨xb, 0, none⟩ := by rcases hxa with q | q; (· have := hTL.out; omega); (· exact q)
     subst xa
     have hlen0 : 1 < len := by have := hTL.out; omega
     have hlen1 : 0 < len := by omega
     have hlen2 : (1 : Int) < (len : Int) := by omega
     have TY := hid (show ∀ x, binT a5 k0 k1 = x → tyH vs cs ss ⟨a0, 7, a2, a3, a4, a5⟩ ts = x from fun x hx => by simp only [tyH]; rw [hg0, hg1]; exact hx)
     clear hg0 hg1
     have hbx1 := hX.out.1
     go_wp2_with fail
     refine wp_region_held_drew (S := (Below wr.heap.size wr)) (by kernel_rfl) (Below.refl _ _).drew (fun hHeld => ?_)
     refine tk 0 ?_ (hy := ?_) (h := ?_)
     rotate_left
     ·intro w' hSw; go_simp; (try with_reducible rfl)
     try simp only [tpa, tpb, tpc, tpd, tpe]
     refine tk 1 ?_ (hy := ?_) (h := ?_)
     rotate_left
     ·intro w' hSw; have q1 := cell_on p5 hSw; go_simp; (try with_reducible rfl)
     try simp only [tpa, tpb, tpc, tpd, tpe]
     refine tk 2 ?_ (hy := ?_) (h := ?_)
     rotate_left
     ·intro w' hSw; go_simp; (try with_reducible rfl)
     try simp only [tpa, tpb, tpc, tpd, tpe]
     refine tk 3 ?_ (hy := ?_) (h := ?_)
     rotate_left
     ·intro w' hSw; go_simp; (try with_reducible rfl)
     try simp only [tpa, tpb, tpc, tpd, tpe]
     refine tk 4 ?_ (hy := ?_) (h := ?_)
     rotate_left
     ·intro w' hSw; have q1 := cell_on z0 hSw; go_simp; (try with_reducible rfl)
     try simp only [tpa, tpb, tpc, tpd, tpe]
     refine tk 5 ?_ (hy := ?_) (h := ?_)
     rotate_left
     ·intro w' hSw; go_simp; (try with_reducible rfl)
     try simp only [tpa, tpb, tpc, tpd, tpe]
     refine tk 6 ?_ (hy := ?_) (h := ?_)
     rotate_left
     ·intro w' hSw; go_simp; (try with_reducible rfl)
     try simp only [tpa, tpb, tpc, tpd, tpe]
     refine tk 7 ?_ (hy := ?_) (h := ?_)
     rotate_left
     ·intro w' hSw; have q1 := cell_on z1 hSw; go_simp; (try with_reducible rfl)
     try simp only [tpa, tpb, tpc, tpd, tpe]
     refine tr 8 (h := fun K hK => ?_)
     go_simp
     go_at_call 119
     have cx := hid (binary119 a5 k0 k1 wr.drew)
     cases hq : binT a5 k0 k1 with
     | error er =>
      have hh := hid (TX.out (.error er) (TY.out _ hq))
      rw [hq] at cx
      refine cx.out.mono ?_
      rintro e w2 ⟨he, hw⟩
      obtain rfl : e = flt er := he
      subst w2
      clear cx hK hHeld
      go_wp2_with fail
      refine bp_panic ?_
      rw [hh.out]
      exact ⟨rfl, hX.out.2.drew⟩
     | ok ty =>
      have hh := hid (TX.out (.ok ty) (TY.out _ hq))
      rw [hq] at cx
      refine cx.out.mono ?_
      rintro e w2 ⟨he, hw⟩
      obtain rfl : e = .returned (.int .u8 ty) := he
      subst w2
      have hk := (Below.refl wr.heap.size wr).drew
      clear hHeld cx
      go_wp2_with fail
      refine hK.out _ _ hk (fun hHeld => ?_)
      clear hK K hk
      try simp only [tpa, tpb, tpc, tpd, tpe]
      refine tk 9 ?_ (hy := ?_) (h := ?_)
      rotate_left
      ·intro w' hSw; go_simp; (try with_reducible rfl)
      try simp only [tpa, tpb, tpc, tpd, tpe]
      refine wpAnyH_done (by kernel_rfl) ?_ _
      go_wp2_with fail
      go_ret
      rw [hh.out]
      exact ⟨rfl, hX.out.2.drew⟩
    by_cases h8 : a1 = 8
    ·subst h8
     have hh := hid (TX.out (.ok a3) rfl)
     go_wp2_with fail
     go_ret
     rw [hh.out]
     exact ⟨rfl, hX.out.2⟩
    have hh := hid (TX.out (.ok 1) (by simp [tyH, h2, h3, h4, h5, h6, h7, h8]))
    go_wp2_with fail
    go_ret
    rw [hh.out]
    exact ⟨rfl, hX.out.2⟩
   | cons h2 k2 rest =>
    simp only [Exs.len, Exs.sz] at hk hz
    obtain ⟨⟨⟨t2, y0, _⟩, y1, y2, y3, y4, y5⟩, ⟨vx, y6, hx⟩, hR⟩ := hr.cons
    have x0 := cell_on y0 hb
    have x1 := cell_on y1 hb
    have x2 := cell_on y2 hb
    have x3 := cell_on y3 hb
    have x4 := cell_on y4 hb
    have x5 := cell_on y5 hb
    have x6 := cell_on y6 hb
    have hkk : k < len := by omega
    have hka2 : ka = some ⟨b, off, none⟩ := by rcases hka with q | q; (· omega); (· exact q.1)
    subst hka2
    obtain ⟨xa, xc, rfl⟩ := hx.shape'
    obtain ⟨b0, b1, b2, b3, b4, b5⟩ := h2
    simp only [] at x0 x1 x2 x3 x4 x5 x6
    have hRR := hid hR
    have hkn := hid hk
    simp only [arE, Bool.and_eq_true] at hra
    have hRA := hid hra
    have hBW := hid (((Below.refl wr.heap.size wr).alloc (Nat.le_refl _) (.cells #[.int .i64 t2, .int .u8 b1, .int .u32 b2, .int .u8 b3, .string b4, .string b5, .slice xa k2.len xc] 134)))
    have cx := hid (IH.out t2 ⟨b0, b1, b2, b3, b4, b5⟩ k2 (.slice xa k2.len xc) (wr.alloc (.cells #[.int .i64 t2, .int .u8 b1, .int .u32 b2, .int .u8 b3, .string b4, .string b5, .slice xa k2.len xc] 134)) (by have := hS.out; omega) (by have := hS.out; omega) hra.1.1 hra.1.2 (hx.mono (hb.trans (hBW.out.mono hb.size))) (CK.out.mono (hb.trans (hBW.out.mono hb.size))))
    clear hr hz hra hbx hb hpre hown htl y0 y1 y2 y3 y4 y5 y6 hx hR hk
    cases hty : tyX vs cs ss ⟨b0, b1, b2, b3, b4, b5⟩ k2 with
    | error er =>
     have hh := hid (show tyX vs cs ss ⟨a0, a1, a2, a3, a4, a5⟩ kids = .error er by unfold tyX; have := hP.out; unfold PreOf at this; rw [this, tyE_no hty])
     rw [hty] at cx
     go_wp2_with fail
     refine cx.out.mono ?_
     rintro e w2 ⟨he, hb2⟩
     obtain rfl : e = flt er := he
     have hB2 := hid hb2
     clear hb2 cx
     go_wp2_with fail
     refine bp_panic ?_
     rw [hh.out]
     exact ⟨rfl, hX.out.2.trans ((hBW.out.trans (hB2.out.mono hBW.out.size)).mono hX.out.2.size)⟩
    | ok ty =>
     rw [hty] at cx
     go_wp2_with fail
     refine cx.out.mono ?_
     rintro e w2 ⟨he, hb2⟩
     obtain rfl : e = .returned (.int .u8 ty) := he
     have hB2 := hid (hBW.out.trans (hb2.mono hBW.out.size))
     clear hb2 cx
     have hO2 := hid (ownsRow_at hO.out hB2.out)
     have hX2 := hid (hX.out.1.on (grown_of_below hB2.out) (by simp))
     have hsz9 : w.heap.size ≤ w2.heap.size := Nat.le_trans hX.out.2.size hB2.out.size
     go_wp2_with (at_builtin; refine wpList_append_str rfl _ _ 259 rfl w.heap.size 40 40 (.int .u8 0) 1 1 1 Tryz.underlying259 (by kernel_rfl) rfl (by decide) _ k _ [_] (0, 0) hO2.out rfl (by simp [Value.oneCell']) (by unfold maxLen; omega) (by omega) hsz9 rfl rfl ?_; intro v' w' hA; have hA' := hid (And.intro (app_below hA hO2.out hsz9) (hX2.out.on hA.grown (hX2.out.not_row hO2.out (by decide)))); have hOw := hid hA.own; clear hA)
     have hh := hid (show PreOf vs cs ss kids rest (ts ++ [ty]) by unfold PreOf; have := hP.out; unfold PreOf at this; rw [this, tyE_ok hty])
     exact ⟨⟨k + 1, rest, ts ++ [ty], _, rfl, by have := hkn.out; omega, by go_num, hRR.out, by have := hSz.out; simp only [Exs.sz] at this; omega, hRA.out.2, by simp [hTL.out], hh.out, by simpa using hOw.out, hA'.out.2, hX.out.2.trans ((hB2.out.mono hX.out.2.size).trans hA'.out.1)⟩, by simp only [intOf]; omega⟩
end
section
open Go.Shelf
def varsS : Sts → Nat
 | .nil => 0
 | .cons h _ b e r => (if h.kind = 1 then 1 else 0) + (varsS b + varsS e) + varsS r
theorem varsS_le : ∀ l : Sts, varsS l ≤ l.sz
 | .nil => Nat.le_refl _
 | .cons h x b e r => by
  have h1 := varsS_le b
  have h2 := varsS_le e
  have h3 := varsS_le r
  simp only [varsS, Sts.sz]
  split <;> omega
def retS : Sts → Bool
 | .nil => false
 | .cons h _ b e r => (h.kind == 8 || (h.kind == 4 && (retS b && retS e))) || retS r
set_option maxHeartbeats 8000000 in
theorem vars108 : ∀ (n : Nat) (l : Sts) (v : Value) (w : World), l.sz < n → l.sz ≤ 100000000 → SlS w false none l v →
  Calls Tryz.prog 108 #[v] w fun e w' => e = .returned (.int .i64 ((varsS l : Nat) : Int)) ∧ Below w.heap.size w w' := by
 intro n
 induction n with
 | zero => intro l v w hn; omega
 | succ n ih =>
  have IH := hid ih
  clear ih
  intro l v w hn hs hv
  obtain ⟨ka, b, off, c, rfl, hka, hin⟩ := hv
  have hl := l.len_le
  have hh : varsS l ≤ l.sz := varsS_le l
  have hS := hid (And.intro hn hs)
  have hI := hid hin
  have hkb : l.len ≤ 100000000 := by omega
  have hhb : varsS l ≤ 100000000 := by omega
  obtain ⟨len, hlen⟩ : ∃ m, m = l.len := ⟨_, rfl⟩
  obtain ⟨H, hH⟩ : ∃ m, m = varsS l := ⟨_, rfl⟩
  rw [← hlen] at hka hl hkb ⊢
  rw [← hH] at hhb ⊢
  have hLen := hid hlen
  have hHt := hid hH
  clear hn hs hin hlen hH hh hl
  go_enter Tryz.func108, Tryz.ntmps108
  go_wp2_with fail
  go_loopw [3, 8] (fun z i wr => ∃ (k m : Nat) (r : Sts), z = .int .i64 m ∧ k + r.len = len ∧ i = .int .i64 k ∧ StsIn w false none r b off k ∧ r.sz ≤ l.sz ∧ H = m + varsS r ∧ Below w.heap.size w wr) (fun _ i _ => len - (intOf i).toNat)
  case atStart => exact ⟨0, 0, l, rfl, by have := hLen.out; omega, rfl, hI.out, Nat.le_refl _, by rw [hHt.out]; simp, Below.refl _ _⟩
  case round =>
   clear hI
   obtain ⟨k, m, r, rfl, hk, rfl, hr, hz, hm, hb⟩ := hrel
   obtain ⟨wo, rfl⟩ : ∃ wo : World, wo = wr := ⟨_, rfl⟩
   have hB := hid hb
   have hM := hid hm
   cases r with
   | nil =>
    simp only [Sts.len, Nat.add_zero] at hk
    subst k
    have hm2 : Hid (H = m) := hid (by rw [hm]; simp [varsS])
    have hmb : m ≤ 100000000 := by have := hm2.out; omega
    clear hr hz hm hb
    go_wp2_with fail
    go_ret
    exact ⟨ret_int (by rw [hm2.out]), hB.out⟩
   | cons h x body els rest =>
    simp only [Sts.len, Sts.sz] at hk hz
    obtain ⟨⟨⟨t, y0, _⟩, y1, y2, y3, y4⟩, ⟨vx, y5, hx⟩, ⟨vb, y6, hbd⟩, ⟨ve, y7, he⟩, hR⟩ := hr.cons
    have x0 := cell_on y0 hb
    have x1 := cell_on y1 hb
    have x2 := cell_on y2 hb
    have x3 := cell_on y3 hb
    have x4 := cell_on y4 hb
    have x5 := cell_on y5 hb
    have x6 := cell_on y6 hb
    have x7 := cell_on y7 hb
    have hkk : k < len := by omega
    have hka2 : ka = some ⟨b, off, none⟩ := by rcases hka with q | q; (· omega); (· exact q.1)
    subst hka2
    obtain ⟨xa, xc, rfl⟩ := hx.shape'
    obtain ⟨ba, bc, rfl⟩ := hbd.shape'
    obtain ⟨ea, ec, rfl⟩ := he.shape'
    obtain ⟨xb, xo, hxa, hxin⟩ : ∃ xb xo, (x.len = 0 ∨ xa = some ⟨xb, xo, none⟩) ∧ ExsIn w false none x xb xo 0 := by
     obtain ⟨ka', kb, koff, kcap, hv, y2, y3⟩ := hx
     cases hv
     exact ⟨kb, koff, y2.imp And.left And.left, y3⟩
    have hxl := x.len_le
    have hxlen : x.len ≤ 100000000 := by have := hS.out; omega
    obtain ⟨a0, a1, a2, a3, a4⟩ := h
    have hXI := hid hxin
    have hSz := hid hz
    have hRR := hid hR
    have hXv := hid hx
    have hcb := hid (fun (w2 : World) (h2 : Below w.heap.size w w2) => IH.out body (.slice ba body.len bc) w2 (by have := hS.out; have := hSz.out; omega) (by have := hS.out; have := hSz.out; omega) (hbd.mono h2))
    have hce := hid (fun (w2 : World) (h2 : Below w.heap.size w w2) => IH.out els (.slice ea els.len ec) w2 (by have := hS.out; have := hSz.out; omega) (by have := hS.out; have := hSz.out; omega) (he.mono h2))
    have hbb : varsS body ≤ body.sz := varsS_le body
    have heb : varsS els ≤ els.sz := varsS_le els
    have hbb2 : varsS body ≤ 100000000 := by have := hS.out; omega
    have heb2 : varsS els ≤ 100000000 := by have := hS.out; omega
    obtain ⟨Hb, hHb⟩ : ∃ m, m = varsS body := ⟨_, rfl⟩
    obtain ⟨He, hHe⟩ : ∃ m, m = varsS els := ⟨_, rfl⟩
    rw [← hHb] at hbb hbb2
    rw [← hHe] at heb heb2
    have hHB := hid hHb
    have hHE := hid hHe
    rw [← hHb] at hcb
    rw [← hHe] at hce
    have hmb : m + (1 + Hb + He) ≤ 100000001 := by have := hM.out; simp only [varsS] at this; rw [← hHB.out, ← hHE.out] at this; omega
    have hS1 := hid (SB1.new hb #[.int .i64 t, .int .u8 a1, .string a2, .int .u8 a3, .string a4, .slice xa x.len xc, .slice ba body.len bc, .slice ea els.len ec] 109)
    clear hka hr hx hbd he hR hb y0 y1 y2 y3 y4 y5 y6 y7 hxin hxl hm hz hHb hHe hxa hxlen hXI hXv
    by_cases hk1 : a1 = 1
    ·subst hk1
     go_wp2_with fail
     clear x0 x1 x2 x3 x4 x5 x6 x7
     refine wp_region_held_drew (S := (SB1 w wo.heap.size #[.int .i64 t, .int .u8 1, .string a2, .int .u8 a3, .string a4, .slice xa x.len xc, .slice ba body.len bc, .slice ea els.len ec] 109)) (by kernel_rfl) hS1.out.drew (fun hHeld => ?_)
     clear hS1
     refine tk 0 ?_ (hy := ?_) (h := ?_)
     rotate_left
     ·intro w' hSw; go_simp; (try with_reducible rfl)
     try simp only [tpa, tpb, tpc, tpd, tpe]
     refine tk 1 ?_ (hy := ?_) (h := ?_)
     rotate_left
     ·intro w' hSw; go_simp; (try with_reducible rfl)
     try simp only [tpa, tpb, tpc, tpd, tpe]
     refine tk 2 ?_ (hy := ?_) (h := ?_)
     rotate_left
     ·intro w' hSw; have c6 := hSw.box.cell 6; have c7 := hSw.box.cell 7; simp at c6 c7; go_simp; (try with_reducible rfl)
     try simp only [tpa, tpb, tpc, tpd, tpe]
     refine tk 4 ?_ (hy := ?_) (h := ?_)
     rotate_left
     ·intro w' hSw; go_simp; (try with_reducible rfl)
     try simp only [tpa, tpb, tpc, tpd, tpe]
     refine tk 5 ?_ (hy := ?_) (h := ?_)
     rotate_left
     ·intro w' hSw; have c6 := hSw.box.cell 6; have c7 := hSw.box.cell 7; simp at c6 c7; go_simp; (try with_reducible rfl)
     try simp only [tpa, tpb, tpc, tpd, tpe]
     refine tr 3 (h := fun K hK => ?_)
     go_simp
     go_at_call 108
     refine (hcb.out _ hHeld.below).mono ?_
     rintro e w2 ⟨rfl, hb2⟩
     have hk := hHeld.on hb2
     clear hHeld hb2
     go_wp2_with fail
     refine hK.out _ _ hk (fun hHeld => ?_)
     clear hK K hk
     try simp only [tpa, tpb, tpc, tpd, tpe]
     refine tr 6 (h := fun K hK => ?_)
     go_simp
     go_at_call 108
     refine (hce.out _ hHeld.below).mono ?_
     rintro e w2 ⟨rfl, hb2⟩
     have hk := hHeld.on hb2
     clear hHeld hb2
     go_wp2_with fail
     refine hK.out _ _ hk (fun hHeld => ?_)
     clear hK K hk
     try simp only [tpa, tpb, tpc, tpd, tpe]
     refine tk 7 ?_ (hy := ?_) (h := ?_)
     rotate_left
     ·intro w' hSw; go_simp; (try with_reducible rfl)
     try simp only [tpa, tpb, tpc, tpd, tpe]
     refine tk 8 ?_ (hy := ?_) (h := ?_)
     rotate_left
     ·intro w' hSw; go_simp; (try with_reducible rfl)
     try simp only [tpa, tpb, tpc, tpd, tpe]
     refine tk 9 ?_ (hy := ?_) (h := ?_)
     rotate_left
     ·intro w' hSw; go_simp; (try with_reducible rfl)
     try simp only [tpa, tpb, tpc, tpd, tpe]
     refine wpAnyH_done (by kernel_rfl) ?_ _
     have hX := hid hHeld
     clear hHeld
     rw [show IntKind.i64.wrap ((Hb : Int) + (He : Int)) = (Hb : Int) + (He : Int) from IntWalk.i64_in _ (by omega), show IntKind.i64.wrap (((m : Int) + 1) + ((Hb : Int) + (He : Int))) = ((m : Int) + 1) + ((Hb : Int) + (He : Int)) from IntWalk.i64_in _ (by omega)]
     go_wp2_with fail
     go_roundw
     case rel => exact ⟨k + 1, m + 1 + (Hb + He), rest, by first | rfl | go_num | (congr 1; omega), by omega, by go_num, hRR.out, by have := hSz.out; omega, by rw [hM.out]; simp only [varsS]; rw [hHB.out, hHE.out]; simp; omega, hX.out.below⟩
     case measure => simp [intOf]; omega
    ·go_wp2_with fail
     clear x0 x1 x2 x3 x4 x5 x6 x7
     refine wp_region_held_drew (S := (SB1 w wo.heap.size #[.int .i64 t, .int .u8 a1, .string a2, .int .u8 a3, .string a4, .slice xa x.len xc, .slice ba body.len bc, .slice ea els.len ec] 109)) (by kernel_rfl) hS1.out.drew (fun hHeld => ?_)
     clear hS1
     refine tk 0 ?_ (hy := ?_) (h := ?_)
     rotate_left
     ·intro w' hSw; go_simp; (try with_reducible rfl)
     try simp only [tpa, tpb, tpc, tpd, tpe]
     refine tk 1 ?_ (hy := ?_) (h := ?_)
     rotate_left
     ·intro w' hSw; go_simp; (try with_reducible rfl)
     try simp only [tpa, tpb, tpc, tpd, tpe]
     refine tk 2 ?_ (hy := ?_) (h := ?_)
     rotate_left
     ·intro w' hSw; have c6 := hSw.box.cell 6; have c7 := hSw.box.cell 7; simp at c6 c7; go_simp; (try with_reducible rfl)
     try simp only [tpa, tpb, tpc, tpd, tpe]
     refine tk 4 ?_ (hy := ?_) (h := ?_)
     rotate_left
     ·intro w' hSw; go_simp; (try with_reducible rfl)
     try simp only [tpa, tpb, tpc, tpd, tpe]
     refine tk 5 ?_ (hy := ?_) (h := ?_)
     rotate_left
     ·intro w' hSw; have c6 := hSw.box.cell 6; have c7 := hSw.box.cell 7; simp at c6 c7; go_simp; (try with_reducible rfl)
     try simp only [tpa, tpb, tpc, tpd, tpe]
     refine tr 3 (h := fun K hK => ?_)
     go_simp
     go_at_call 108
     refine (hcb.out _ hHeld.below).mono ?_
     rintro e w2 ⟨rfl, hb2⟩
     have hk := hHeld.on hb2
     clear hHeld hb2
     go_wp2_with fail
     refine hK.out _ _ hk (fun hHeld => ?_)
     clear hK K hk
     try simp only [tpa, tpb, tpc, tpd, tpe]
     refine tr 6 (h := fun K hK => ?_)
     go_simp
     go_at_call 108
     refine (hce.out _ hHeld.below).mono ?_
     rintro e w2 ⟨rfl, hb2⟩
     have hk := hHeld.on hb2
     clear hHeld hb2
     go_wp2_with fail
     refine hK.out _ _ hk (fun hHeld => ?_)
     clear hK K hk
     try simp only [tpa, tpb, tpc, tpd, tpe]
     refine tk 7 ?_ (hy := ?_) (h := ?_)
     rotate_left
     ·intro w' hSw; go_simp; (try with_reducible rfl)
     try simp only [tpa, tpb, tpc, tpd, tpe]
     refine tk 8 ?_ (hy := ?_) (h := ?_)
     rotate_left
     ·intro w' hSw; go_simp; (try with_reducible rfl)
     try simp only [tpa, tpb, tpc, tpd, tpe]
     refine tk 9 ?_ (hy := ?_) (h := ?_)
     rotate_left
     ·intro w' hSw; go_simp; (try with_reducible rfl)
     try simp only [tpa, tpb, tpc, tpd, tpe]
     refine wpAnyH_done (by kernel_rfl) ?_ _
     have hX := hid hHeld
     clear hHeld
     rw [show IntKind.i64.wrap ((Hb : Int) + (He : Int)) = (Hb : Int) + (He : Int) from IntWalk.i64_in _ (by omega), show IntKind.i64.wrap ((m : Int) + ((Hb : Int) + (He : Int))) = (m : Int) + ((Hb : Int) + (He : Int)) from IntWalk.i64_in _ (by omega)]
     go_wp2_with fail
     go_roundw
     case rel => exact ⟨k + 1, m + (Hb + He), rest, by first | rfl | go_num | (congr 1; omega), by omega, by go_num, hRR.out, by have := hSz.out; omega, by rw [hM.out]; simp only [varsS]; rw [hHB.out, hHE.out]; simp [hk1]; omega, hX.out.below⟩
     case measure => simp [intOf]; omega
set_option maxHeartbeats 8000000 in
theorem returns112 : ∀ (n : Nat) (l : Sts) (v : Value) (w : World), l.sz < n → l.sz ≤ 100000000 → SlS w false none l v →
  Calls Tryz.prog 112 #[v] w fun e w' => e = .returned (.bool (retS l)) ∧ Below w.heap.size w w' := by
 intro n
 induction n with
 | zero => intro l v w hn; omega
 | succ n ih =>
  have IH := hid ih
  clear ih
  intro l v w hn hs hv
  obtain ⟨ka, b, off, c, rfl, hka, hin⟩ := hv
  have hl := l.len_le
  have hS := hid (And.intro hn hs)
  have hI := hid hin
  have hkb : l.len ≤ 100000000 := by omega
  obtain ⟨len, hlen⟩ : ∃ m, m = l.len := ⟨_, rfl⟩
  obtain ⟨H, hH⟩ : ∃ m, m = retS l := ⟨_, rfl⟩
  rw [← hlen] at hka hl hkb ⊢
  rw [← hH]
  have hLen := hid hlen
  have hHt := hid hH
  clear hn hs hin hlen hH hl
  go_enter Tryz.func112, Tryz.ntmps112
  go_wp2_with fail
  go_loopw [7] (fun i wr => ∃ (k : Nat) (r : Sts), k + r.len = len ∧ i = .int .i64 k ∧ StsIn w false none r b off k ∧ r.sz ≤ l.sz ∧ H = retS r ∧ Below w.heap.size w wr) (fun i _ => len - (intOf i).toNat)
  case atStart => exact ⟨0, l, by have := hLen.out; omega, rfl, hI.out, Nat.le_refl _, hHt.out, Below.refl _ _⟩
  case round =>
   clear hI
   obtain ⟨k, r, hk, rfl, hr, hz, hm, hb⟩ := hrel
   obtain ⟨wo, rfl⟩ : ∃ wo : World, wo = wr := ⟨_, rfl⟩
   have hB := hid hb
   have hM := hid hm
   cases r with
   | nil =>
    simp only [Sts.len, Nat.add_zero] at hk
    have hm2 : Hid (H = false) := hid (by rw [hm]; simp [retS])
    clear hr hz hm hb
    obtain rfl : len = k := hk.symm
    go_wp2_with fail
    go_ret
    exact ⟨ret_bool (by rw [hm2.out]), hB.out⟩
   | cons h x body els rest =>
    simp only [Sts.len, Sts.sz] at hk hz
    obtain ⟨⟨⟨t, y0, _⟩, y1, y2, y3, y4⟩, ⟨vx, y5, hx⟩, ⟨vb, y6, hbd⟩, ⟨ve, y7, he⟩, hR⟩ := hr.cons
    have x0 := cell_on y0 hb
    have x1 := cell_on y1 hb
    have x2 := cell_on y2 hb
    have x3 := cell_on y3 hb
    have x4 := cell_on y4 hb
    have x5 := cell_on y5 hb
    have x6 := cell_on y6 hb
    have x7 := cell_on y7 hb
    have hkk : k < len := by omega
    have hka2 : ka = some ⟨b, off, none⟩ := by rcases hka with q | q; (· omega); (· exact q.1)
    subst hka2
    obtain ⟨xa, xc, rfl⟩ := hx.shape'
    obtain ⟨ba, bc, rfl⟩ := hbd.shape'
    obtain ⟨ea, ec, rfl⟩ := he.shape'
    obtain ⟨a0, a1, a2, a3, a4⟩ := h
    have hSz := hid hz
    have hRR := hid hR
    have hcb := hid (fun (w2 : World) (h2 : Below w.heap.size w w2) => IH.out body (.slice ba body.len bc) w2 (by have := hS.out; have := hSz.out; omega) (by have := hS.out; have := hSz.out; omega) (hbd.mono h2))
    have hce := hid (fun (w2 : World) (h2 : Below w.heap.size w w2) => IH.out els (.slice ea els.len ec) w2 (by have := hS.out; have := hSz.out; omega) (by have := hS.out; have := hSz.out; omega) (he.mono h2))
    have hS1 := hid (SB1.new hb #[.int .i64 t, .int .u8 a1, .string a2, .int .u8 a3, .string a4, .slice xa x.len xc, .slice ba body.len bc, .slice ea els.len ec] 109)
    clear hka hr hx hbd he hR hb y0 y1 y2 y3 y4 y5 y6 y7 hm hz
    by_cases h8 : a1 = 8
    ·subst h8
     go_wp2_with fail
     go_ret
     exact ⟨ret_bool (by rw [hM.out]; simp only [retS]; simp [true_and]), hS1.out.below⟩
    by_cases h4 : a1 = 4
    ·subst h4
     go_wp2_with fail
     refine (hcb.out _ hS1.out.below).mono ?_
     rintro e w2 ⟨rfl, hb2⟩
     have hS2 := hid (hS1.out.on hb2)
     have p7 := hS2.out.box.cell 7
     simp at p7
     clear hb2 hcb x0 x1 x2 x3 x4 x5 x6 x7
     cases hrb : retS body
     case false =>
      go_wp2_with fail
      exact ⟨⟨k + 1, rest, by omega, by go_num, hRR.out, by have := hSz.out; omega, by rw [hM.out]; simp only [retS]; simp [hrb], hS2.out.below⟩, by simp only [intOf]; omega⟩
     case true =>
      go_wp2_with fail
      refine (hce.out _ hS2.out.below).mono ?_
      rintro e w3 ⟨rfl, hb3⟩
      have hS3 := hid (hS2.out.on hb3)
      clear hb3 hce p7
      cases hre : retS els
      case false =>
       go_wp2_with fail
       exact ⟨⟨k + 1, rest, by omega, by go_num, hRR.out, by have := hSz.out; omega, by rw [hM.out]; simp only [retS]; simp [hrb, hre], hS3.out.below⟩, by simp only [intOf]; omega⟩
      case true =>
       go_wp2_with fail
       go_ret
       exact ⟨ret_bool (by rw [hM.out]; simp only [retS]; simp [hrb, hre]), hS3.out.below⟩
    go_wp2_with fail
    exact ⟨⟨k + 1, rest, by omega, by go_num, hRR.out, by have := hSz.out; omega, by rw [hM.out]; simp only [retS]; simp [h8, h4], hS1.out.below⟩, by simp only [intOf]; omega⟩
end
end Go.Proofs.YtlabadkfkbenoaaGreatDoor
