/- Walks and plain laws, merged: SenF SenG SenH SenI. No condition. -/
import Derived.Test.YtlabadkfkbenoaaGreatDoorKm01
import Derived.Test.YtlabadkfkbenoaaGreatDoorKm05
import Derived.Test.YtlabadkfkbenoaaGreatDoorKm07
import Derived.Outline
import Derived.Deep.RegionHeld3
import Derived.Carry
namespace Go.Proofs.YtlabadkfkbenoaaGreatDoor
open Go.RowKit
set_option linter.unusedVariables false
set_option linter.unusedSimpArgs false
set_option maxRecDepth 100000
set_option maxHeartbeats 64000000
section
open Go.Shelf
section
variable (vs : List (ByteArray × (Int × Int))) (cs : List (ByteArray × Sig)) (ss : List Scope)
def tyH (h : EH) (ks : List Int) : Except Int Int :=
 if h.kind = 2 then .ok 2
 else if h.kind = 3 then varT vs ss h.name
 else if h.kind = 4 then match arrT vs ss h.name with
  | .error e => .error e
  | .ok t => if ks.getD 0 0 = 1 then .ok t else .error 292
 else if h.kind = 5 then callT cs h.name ks
 else if h.kind = 6 then if (h.sign.toList == [45] || ks.getD 0 0 == 1) then .ok (ks.getD 0 0) else .error 292
 else if h.kind = 7 then binT h.sign (ks.getD 0 0) (ks.getD 1 0)
 else if h.kind = 8 then .ok h.type
 else .ok 1
def tyE : Exs → Except Int (List Int)
 | .nil => .ok []
 | .cons h k r => match tyE k with
  | .error e => .error e
  | .ok ks => match tyH vs cs ss h ks with
   | .error e => .error e
   | .ok t => match tyE r with
    | .error e => .error e
    | .ok ts => .ok (t :: ts)
def tyX (h : EH) (k : Exs) : Except Int Int := match tyE vs cs ss k with
 | .error e => .error e
 | .ok ks => tyH vs cs ss h ks
end
def arH (k : Int) (n : Nat) : Bool := if k = 4 ∨ k = 6 then decide (1 ≤ n) else if k = 7 then decide (2 ≤ n) else true
def arE : Exs → Bool
 | .nil => true
 | .cons h k r => arE k && arH h.kind k.len && arE r
theorem arH_4 (n : Nat) : arH 4 n = decide (1 ≤ n) := rfl
theorem arH_6 (n : Nat) : arH 6 n = decide (1 ≤ n) := rfl
theorem arH_7 (n : Nat) : arH 7 n = decide (2 ≤ n) := rfl
def pre (ts : List Int) : Except Int (List Int) → Except Int (List Int)
 | .error e => .error e
 | .ok l => .ok (ts ++ l)
theorem tyE_ok {vs : List (ByteArray × (Int × Int))} {cs : List (ByteArray × Sig)} {ss : List Scope} {h : EH} {k r : Exs} {t : Int} {ts : List Int} (hx : tyX vs cs ss h k = .ok t) : pre ts (tyE vs cs ss (.cons h k r)) = pre (ts ++ [t]) (tyE vs cs ss r) := by
 unfold tyX at hx
 simp only [tyE]
 cases hk : tyE vs cs ss k with
 | error e => rw [hk] at hx; cases hx
 | ok ks =>
  rw [hk] at hx
  simp only [] at hx ⊢
  rw [hx]
  cases tyE vs cs ss r <;> simp [pre]
theorem tyE_no {vs : List (ByteArray × (Int × Int))} {cs : List (ByteArray × Sig)} {ss : List Scope} {h : EH} {k r : Exs} {e : Int} {ts : List Int} (hx : tyX vs cs ss h k = .error e) : pre ts (tyE vs cs ss (.cons h k r)) = .error e := by
 unfold tyX at hx
 simp only [tyE]
 cases hk : tyE vs cs ss k with
 | error e => rw [hk] at hx; cases hx; rfl
 | ok ks =>
  rw [hk] at hx
  simp only [] at hx ⊢
  rw [hx]
  rfl
theorem app_below {w w' : World} {base : Nat} {e : TypeId} {size : Nat} {v v' : Value} {n m : Nat} {xs news : List Value} (hA : Appended w w' base e size v v' n m xs news) (hown : w.ownsRow base e size v n xs) (hb : base ≤ w.heap.size) : Below base w w' :=
 (Below.refl base w).grown hA.grown hb (fun k hk => (hown.lt k hk).1)
theorem Bx.not_row {w : World} {q : Nat} {cs : Array Value} {t e : TypeId} (h : Bx w q cs t) {base size n : Nat} {v : Value} {xs : List Value} (hown : w.ownsRow base e size v n xs) (hte : t ≠ e) : some q ≠ v.ownBlock := fun hq => by
 rcases hown.2 with ⟨rfl, _⟩ | ⟨g, cap, cur, rfl, _, hg, _⟩
 ·cases hq
 ·simp only [Value.ownBlock, Option.some.injEq] at hq
  subst hq
  unfold Bx at h
  rw [h] at hg
  simp at hg
  exact hte hg.2
theorem ownsRow_at {w w' : World} {base : Nat} {e : TypeId} {size : Nat} {v : Value} {n : Nat} {xs : List Value} (h : w.ownsRow base e size v n xs) (hb : Below w.heap.size w w') : w'.ownsRow base e size v n xs :=
 h.kept (row := none) (grown_of_below hb) (by cases hq : v.ownBlock; exact .inl rfl; exact .inr (by simp))
def PreOf (vs : List (ByteArray × (Int × Int))) (cs : List (ByteArray × Sig)) (ss : List Scope) (l r : Exs) (ts : List Int) : Prop := tyE vs cs ss l = pre ts (tyE vs cs ss r)
theorem expr169 (vs : List (ByteArray × (Int × Int))) (cs : List (ByteArray × Sig)) (C : Nat) (ss : List Scope) (vb cb g cap : Nat) (ms : List Nat)
  (hp : Hid (∀ s x, getM s cs = some x → x.params.length ≤ 100000000)) : ∀ (n : Nat) (t : Int) (h : EH) (kids : Exs) (v : Value) (w : World), kids.sz < n → kids.sz ≤ 100000000 → arE kids = true → arH h.kind kids.len = true → SlE w false none kids v → CkR w vs cs C ss vb cb g cap ms →
  Calls Tryz.prog 169 #[.pointer (some ⟨C, 0, none⟩), aggE t h v] w fun e w' => e = outT (tyX vs cs ss h kids) ∧ Below w.heap.size w w' := by
 intro n
 induction n with
 | zero => intro t h kids v w hn; omega
 | succ n ih =>
  have IH := hid ih
  clear ih
  intro t h kids v w hn hs har harh hv hck
  obtain ⟨ka, b, off, c, rfl, hka, hin⟩ := hv
  have hl := kids.len_le
  have hS := hid (And.intro hn hs)
  have hI := hid hin
  have hkb : kids.len ≤ 100000000 := by omega
  have AR := hid har
  have ARH := hid harh
  have CK := hid hck
  obtain ⟨a0, a1, a2, a3, a4, a5⟩ := h
  obtain ⟨len, hlen⟩ : ∃ m, m = kids.len := ⟨_, rfl⟩
  rw [← hlen] at hka hl hkb ⊢
  have hLen := hid hlen
  clear hn hs hin har harh hlen hck
  have hX0 := hid (Bx.new w #[.int .i64 t, .int .u8 a1, .int .u32 a2, .int .u8 a3, .string a4, .string a5, .slice ka len c] 134)
  have hB0 := hid ((Below.refl w.heap.size w).alloc (Nat.le_refl _) (.cells #[.int .i64 t, .int .u8 a1, .int .u32 a2, .int .u8 a3, .string a4, .string a5, .slice ka len c] 134))
  go_enter Tryz.func169, Tryz.ntmps169
  go_wp2_with fail
  go_loopw [5, 12] (fun z i wr => ∃ (k : Nat) (r : Exs) (ts : List Int) (z0 : Value), z0 = z ∧ k + r.len = len ∧ i = .int .i64 k ∧ ExsIn w false none r b off k ∧ r.sz ≤ kids.sz ∧ arE r = true ∧ ts.length = k ∧ PreOf vs cs ss kids r ts ∧ wr.ownsRow w.heap.size 40 1 z k (ts.map (Value.int .u8)) ∧ Bx wr w.heap.size #[.int .i64 t, .int .u8 a1, .int .u32 a2, .int .u8 a3, .string a4, .string a5, .slice ka len c] 134 ∧ Below w.heap.size w wr) (fun _ i _ => len - (intOf i).toNat)
  case atStart => exact ⟨0, kids, [], _, rfl, by have := hLen.out; omega, rfl, hI.out, Nat.le_refl _, AR.out, rfl, by unfold PreOf; cases tyE vs cs ss kids <;> rfl, World.ownsRow_nil _ _ _ _, hX0.out, hB0.out⟩
  case round =>
   clear hI hX0 hB0
   obtain ⟨k, r, ts, z0, hz0, hk, rfl, hr, hz, hra, htl, hpre, hown, hbx, hb⟩ := hrel
   subst z0
   have hX := hid (And.intro hbx hb)
   have hO := hid hown
   have hP := hid hpre
   have hTL := hid htl
   have hSz := hid hz
   cases r with
   | nil =>
    simp only [Exs.len, Nat.add_zero] at hk
    clear hr hz hra hbx hb hpre hown htl
    obtain rfl : len = k := hk.symm
    have hkids := hid (show tyE vs cs ss kids = .ok ts by have := hP.out; unfold PreOf at this; rw [this]; simp [tyE, pre])
    have hKS0 := (show KsR wr ts _ from ⟨w.heap.size, by rw [hTL.out]; exact hO.out⟩)
    obtain ⟨xa, xb, xc, rfl, hxa, hxc⟩ := hKS0.open
    have hXC := hid hxc
    clear hxc
    rw [hTL.out] at hxa
    rw [hTL.out]
    rw [hTL.out] at hKS0
    have hKS := hid hKS0
    clear hKS0
    have CKr := hid (CK.out.mono hX.out.2)
    have p1 := hX.out.1.cell 1
    have p3 := hX.out.1.cell 3
    have p4 := hX.out.1.cell 4
    have p5 := hX.out.1.cell 5
    simp at p1 p3 p4 p5
    have TX := hid (show ∀ x, tyH vs cs ss ⟨a0, a1, a2, a3, a4, a5⟩ ts = x → tyX vs cs ss ⟨a0, a1, a2, a3, a4, a5⟩ kids = x from fun x hx => by unfold tyX; rw [hkids.out]; exact hx)
    by_cases h2 : a1 = 2
    ·subst h2
     have hh := hid (TX.out (.ok 2) rfl)
     go_wp2_with fail
     go_ret
     rw [hh.out]
     exact ⟨rfl, hX.out.2⟩
    by_cases h3 : a1 = 3
    ·subst h3
     cases hq : varT vs ss a4 with
     | error er =>
      have hh := hid (TX.out (.error er) hq)
      have cx := hid (variable171 a4 vs cs C ss vb cb g cap ms wr CKr.out)
      rw [hq] at cx
      go_wp2_with fail
      refine cx.out.mono ?_
      rintro e w2 ⟨he, hb2⟩
      obtain rfl : e = flt er := he
      have hB2 := hid hb2
      clear hb2 cx
      go_wp2_with fail
      refine bp_panic ?_
      rw [hh.out]
      exact ⟨rfl, hX.out.2.trans (hB2.out.mono hX.out.2.size)⟩
     | ok ty =>
      have hh := hid (TX.out (.ok ty) hq)
      have cx := hid (variable171 a4 vs cs C ss vb cb g cap ms wr CKr.out)
      rw [hq] at cx
      go_wp2_with fail
      refine cx.out.mono ?_
      rintro e w2 ⟨he, hb2⟩
      obtain rfl : e = .returned (.int .u8 ty) := he
      have hB2 := hid hb2
      clear hb2 cx
      go_wp2_with fail
      go_ret
      rw [hh.out]
      exact ⟨rfl, hX.out.2.trans (hB2.out.mono hX.out.2.size)⟩
    by_cases h4 : a1 = 4
    ·subst h4
     have hl0 : 0 < ts.length := by have := ARH.out; have h2 := hLen.out; rw [arH_4] at this; simp at this; have := hTL.out; omega
     have z0 := hXC.out 0 hl0
     have hg0 : ts.getD 0 0 = ts[0] := by simp [hl0]
     clear hXC
     generalize ts[0] = k0 at z0 hg0
     have hxa2 : xa = some ⟨xb, 0, none⟩ := by rcases hxa with q | q; (· have := hTL.out; omega); (· exact q)
     subst xa
     have hlen0 : 0 < len := by have := hTL.out; omega
     cases hq : arrT vs ss a4 with
     | error er =>
      have hh := hid (TX.out (.error er) (by simp [tyH, hq]))
      have cx := hid (array173 a4 vs cs C ss vb cb g cap ms wr CKr.out)
      rw [hq] at cx
      go_wp2_with fail
      refine cx.out.mono ?_
      rintro e w2 ⟨he, hb2⟩
      obtain rfl : e = flt er := he
      have hB2 := hid hb2
      clear hb2 cx
      go_wp2_with fail
      refine bp_panic ?_
      rw [hh.out]
      exact ⟨rfl, hX.out.2.trans (hB2.out.mono hX.out.2.size)⟩
     | ok ty =>
      have cx := hid (array173 a4 vs cs C ss vb cb g cap ms wr CKr.out)
      rw [hq] at cx
      go_wp2_with fail
      refine cx.out.mono ?_
      rintro e w2 ⟨he, hb2⟩
      obtain rfl : e = .returned (.int .u8 ty) := he
      have hB2 := hid hb2
      have z1 := cell_on z0 hb2
      clear hb2 cx
      by_cases hk1 : k0 = 1
      ·subst hk1
       have hh := hid (TX.out (.ok ty) (by simp only [tyH]; rw [hq, hg0]; simp))
       clear hg0
       have c5 := hid (ask_y 292 w2)
       go_wp2_with fail
       refine c5.out.mono ?_
       rintro e w3 ⟨rfl, hw⟩
       subst w3
       clear c5
       go_wp2_with fail
       go_ret
       rw [hh.out]
       exact ⟨rfl, hX.out.2.trans (hB2.out.mono hX.out.2.size)⟩
      ·have hh := hid (TX.out (.error 292) (by simp only [tyH]; rw [hq, hg0]; simp [hk1]))
       clear hg0
       have c5 := hid (ask_n 292 w2)
       go_wp2_with fail
       rw [show (k0 == 1) = false by simpa using hk1]
       refine c5.out.mono ?_
       rintro e w3 ⟨rfl, hw⟩
       subst w3
       clear c5
       go_wp2_with fail
       refine bp_panic ?_
       rw [hh.out]
       exact ⟨rfl, hX.out.2.trans (hB2.out.mono hX.out.2.size)⟩
    by_cases h5 : a1 = 5
    ·subst h5
     cases hq : callT cs a4 ts with
     | error er =>
      have hh := hid (TX.out (.error er) hq)
      have cx := hid (by have := call211 a4 ts (.slice xa len xc) vs cs C ss vb cb g cap ms wr CKr.out hKS.out (hp.out a4) (by have := hTL.out; omega); exact this)
      rw [hq] at cx
      go_wp2_with fail
      refine cx.out.mono ?_
      rintro e w2 ⟨he, hb2⟩
      obtain rfl : e = flt er := he
      have hB2 := hid hb2
      clear hb2 cx
      go_wp2_with fail
      refine bp_panic ?_
      rw [hh.out]
      exact ⟨rfl, hX.out.2.trans (hB2.out.mono hX.out.2.size)⟩
     | ok ty =>
      have hh := hid (TX.out (.ok ty) hq)
      have cx := hid (by have := call211 a4 ts (.slice xa len xc) vs cs C ss vb cb g cap ms wr CKr.out hKS.out (hp.out a4) (by have := hTL.out; omega); exact this)
      rw [hq] at cx
      go_wp2_with fail
      refine cx.out.mono ?_
      rintro e w2 ⟨he, hb2⟩
      obtain rfl : e = .returned (.int .u8 ty) := he
      have hB2 := hid hb2
      clear hb2 cx
      go_wp2_with fail
      go_ret
      rw [hh.out]
      exact ⟨rfl, hX.out.2.trans (hB2.out.mono hX.out.2.size)⟩
    by_cases h6 : a1 = 6
    ·subst h6
     have hl0 : 0 < ts.length := by have := ARH.out; have h2 := hLen.out; rw [arH_6] at this; simp at this; have := hTL.out; omega
     have z0 := hXC.out 0 hl0
     have hg0 : ts.getD 0 0 = ts[0] := by simp [hl0]
     clear hXC
     generalize ts[0] = k0 at z0 hg0
     have hxa2 : xa = some ⟨xb, 0, none⟩ := by rcases hxa with q | q; (· have := hTL.out; omega); (· exact q)
     subst xa
     have hlen0 : 0 < len := by have := hTL.out; omega
     cases h45 : a5.toList == [45]
     case true =>
      have hh := hid (TX.out (.ok k0) (by simp only [tyH]; rw [hg0]; simp [h45]))
      clear hg0
      have c5 := hid (ask_y 292 wr)
      go_wp2_with fail
      refine c5.out.mono ?_
      rintro e w3 ⟨rfl, hw⟩
      subst w3
      clear c5
      go_wp2_with fail
      go_ret
      rw [hh.out]
      exact ⟨rfl, hX.out.2⟩
     case false =>
      by_cases hk1 : k0 = 1
      ·subst hk1
       have hh := hid (TX.out (.ok 1) (by simp only [tyH]; rw [hg0]; simp [h45]))
       clear hg0
       have c5 := hid (ask_y 292 wr)
       go_wp2_with fail
       refine c5.out.mono ?_
       rintro e w3 ⟨rfl, hw⟩
       subst w3
       clear c5
       go_wp2_with fail
       go_ret
       rw [hh.out]
       exact ⟨rfl, hX.out.2⟩
      ·have hh := hid (TX.out (.error 292) (by simp only [tyH]; rw [hg0, h45]; simp [hk1]))
       clear hg0
       have c5 := hid (ask_n 292 wr)
       go_wp2_with fail
       rw [show (k0 == 1) = false by simpa using hk1]
       refine c5.out.mono ?_
       rintro e w3 ⟨rfl, hw⟩
       subst w3
       clear c5
       go_wp2_with fail
       refine bp_panic ?_
       rw [hh.out]
       exact ⟨rfl, hX.out.2⟩
    by_cases h7 : a1 = 7
    ·subst h7
     have hl1 : 1 < ts.length := by have := ARH.out; have h2 := hLen.out; rw [arH_7] at this; simp at this; have := hTL.out; omega
     have hl0 : 0 < ts.length := by omega
     have z0 := hXC.out 0 hl0
     have hg0 : ts.getD 0 0 = ts[0] := by simp [hl0]
     have z1 := hXC.out 1 hl1
     have hg1 : ts.getD 1 0 = ts[1] := by simp [hl1]
     clear hXC
     generalize ts[0] = k0 at z0 hg0
     generalize ts[1] = k1 at z1 hg1
     have hxa2 : xa = some ⟨xb, 0, none⟩ := by rcases hxa with q | q; (· have := hTL.out; omega); (· exact q)
     subst xa
     have hlen0 : 1 < len := by have := hTL.out; omega
     have hlen1 : 0 < len := by omega
     have hlen2 : (1 : Int) < (len : Int) := by omega
     have TY := hid (show ∀ x, binT a5 k0 k1 = x → tyH vs cs ss ⟨a0, 7, a2, a3, a4, a5⟩ ts = x from fun x hx => by simp only [tyH]; rw [hg0, hg1]; exact hx)
     clear hg0 hg1
     have hbx1 := hX.out.1
     go_wp2_with fail
     refine wp_region_held_drew (S := (Below wr.heap.size wr)) (by kernel_rfl) (Below.refl _ _).drew (fun hHeld => ?_)
     refine tk 0 ?_
     refine tk 1 ?_ (hy := by intro w' hSw; have q1 := cell_on p5 hSw; go_simp; (try with_reducible rfl))
     refine tk 2 ?_
     refine tk 3 ?_
     refine tk 4 ?_ (hy := by intro w' hSw; have q1 := cell_on z0 hSw; go_simp; (try with_reducible rfl))
     refine tk 5 ?_
     refine tk 6 ?_
     refine tk 7 ?_ (hy := by intro w' hSw; have q1 := cell_on z1 hSw; go_simp; (try with_reducible rfl))
     refine tr 8 fun K hK => ?_
     go_simp
     go_at_call 119
     have cx := hid (binary119 a5 k0 k1 wr.drew)
     cases hq : binT a5 k0 k1 with
     | error er =>
      have hh := hid (TX.out (.error er) (TY.out _ hq))
      rw [hq] at cx
      refine cx.out.mono ?_
      rintro e w2 ⟨he, hw⟩
      obtain rfl : e = flt er := he
      subst w2
      clear cx hK hHeld
      go_wp2_with fail
      refine bp_panic ?_
      rw [hh.out]
      exact ⟨rfl, hX.out.2.drew⟩
     | ok ty =>
      have hh := hid (TX.out (.ok ty) (TY.out _ hq))
      rw [hq] at cx
      refine cx.out.mono ?_
      rintro e w2 ⟨he, hw⟩
      obtain rfl : e = .returned (.int .u8 ty) := he
      subst w2
      have hk := (Below.refl wr.heap.size wr).drew
      clear hHeld cx
      go_wp2_with fail
      refine hK.out _ _ hk (fun hHeld => ?_)
      clear hK K hk
      try simp only [tpa, tpb, tpc, tpd, tpe]
      refine tk 9 ?_
      refine td ?_
      go_wp2_with fail
      go_ret
      rw [hh.out]
      exact ⟨rfl, hX.out.2.drew⟩
    by_cases h8 : a1 = 8
    ·subst h8
     have hh := hid (TX.out (.ok a3) rfl)
     go_wp2_with fail
     go_ret
     rw [hh.out]
     exact ⟨rfl, hX.out.2⟩
    have hh := hid (TX.out (.ok 1) (by simp [tyH, h2, h3, h4, h5, h6, h7, h8]))
    go_wp2_with fail
    go_ret
    rw [hh.out]
    exact ⟨rfl, hX.out.2⟩
   | cons h2 k2 rest =>
    simp only [Exs.len, Exs.sz] at hk hz
    obtain ⟨⟨⟨t2, y0, _⟩, y1, y2, y3, y4, y5⟩, ⟨vx, y6, hx⟩, hR⟩ := hr.cons
    have x0 := cell_on y0 hb
    have x1 := cell_on y1 hb
    have x2 := cell_on y2 hb
    have x3 := cell_on y3 hb
    have x4 := cell_on y4 hb
    have x5 := cell_on y5 hb
    have x6 := cell_on y6 hb
    have hkk : k < len := by omega
    have hka2 : ka = some ⟨b, off, none⟩ := by rcases hka with q | q; (· omega); (· exact q.1)
    subst hka2
    obtain ⟨xa, xc, rfl⟩ := hx.shape'
    obtain ⟨b0, b1, b2, b3, b4, b5⟩ := h2
    simp only [] at x0 x1 x2 x3 x4 x5 x6
    have hRR := hid hR
    have hkn := hid hk
    simp only [arE, Bool.and_eq_true] at hra
    have hRA := hid hra
    have hBW := hid (((Below.refl wr.heap.size wr).alloc (Nat.le_refl _) (.cells #[.int .i64 t2, .int .u8 b1, .int .u32 b2, .int .u8 b3, .string b4, .string b5, .slice xa k2.len xc] 134)))
    have cx := hid (IH.out t2 ⟨b0, b1, b2, b3, b4, b5⟩ k2 (.slice xa k2.len xc) (wr.alloc (.cells #[.int .i64 t2, .int .u8 b1, .int .u32 b2, .int .u8 b3, .string b4, .string b5, .slice xa k2.len xc] 134)) (by have := hS.out; omega) (by have := hS.out; omega) hra.1.1 hra.1.2 (hx.mono (hb.trans (hBW.out.mono hb.size))) (CK.out.mono (hb.trans (hBW.out.mono hb.size))))
    clear hr hz hra hbx hb hpre hown htl y0 y1 y2 y3 y4 y5 y6 hx hR hk
    cases hty : tyX vs cs ss ⟨b0, b1, b2, b3, b4, b5⟩ k2 with
    | error er =>
     have hh := hid (show tyX vs cs ss ⟨a0, a1, a2, a3, a4, a5⟩ kids = .error er by unfold tyX; have := hP.out; unfold PreOf at this; rw [this, tyE_no hty])
     rw [hty] at cx
     go_wp2_with fail
     refine cx.out.mono ?_
     rintro e w2 ⟨he, hb2⟩
     obtain rfl : e = flt er := he
     have hB2 := hid hb2
     clear hb2 cx
     go_wp2_with fail
     refine bp_panic ?_
     rw [hh.out]
     exact ⟨rfl, hX.out.2.trans ((hBW.out.trans (hB2.out.mono hBW.out.size)).mono hX.out.2.size)⟩
    | ok ty =>
     rw [hty] at cx
     go_wp2_with fail
     refine cx.out.mono ?_
     rintro e w2 ⟨he, hb2⟩
     obtain rfl : e = .returned (.int .u8 ty) := he
     have hB2 := hid (hBW.out.trans (hb2.mono hBW.out.size))
     clear hb2 cx
     have hO2 := hid (ownsRow_at hO.out hB2.out)
     have hX2 := hid (hX.out.1.on (grown_of_below hB2.out) (by simp))
     have hsz9 : w.heap.size ≤ w2.heap.size := Nat.le_trans hX.out.2.size hB2.out.size
     go_wp2_with (at_builtin; refine wpList_append_str rfl _ _ 259 rfl w.heap.size 40 40 (.int .u8 0) 1 1 1 Tryz.underlying259 (by kernel_rfl) rfl (by decide) _ k _ [_] (0, 0) hO2.out rfl (by simp [Value.oneCell']) (by unfold maxLen; omega) (by omega) hsz9 rfl rfl ?_; intro v' w' hA; have hA' := hid (And.intro (app_below hA hO2.out hsz9) (hX2.out.on hA.grown (hX2.out.not_row hO2.out (by decide)))); have hOw := hid hA.own; clear hA)
     have hh := hid (show PreOf vs cs ss kids rest (ts ++ [ty]) by unfold PreOf; have := hP.out; unfold PreOf at this; rw [this, tyE_ok hty])
     exact ⟨⟨k + 1, rest, ts ++ [ty], _, rfl, by have := hkn.out; omega, by go_num, hRR.out, by have := hSz.out; simp only [Exs.sz] at this; omega, hRA.out.2, by simp [hTL.out], hh.out, by simpa using hOw.out, hA'.out.2, hX.out.2.trans ((hB2.out.mono hX.out.2.size).trans hA'.out.1)⟩, by simp only [intOf]; omega⟩
end
section
open Go.Shelf
def varsS : Sts → Nat
 | .nil => 0
 | .cons h _ b e r => (if h.kind = 1 then 1 else 0) + (varsS b + varsS e) + varsS r
theorem varsS_le : ∀ l : Sts, varsS l ≤ l.sz
 | .nil => Nat.le_refl _
 | .cons h x b e r => by
  have h1 := varsS_le b
  have h2 := varsS_le e
  have h3 := varsS_le r
  simp only [varsS, Sts.sz]
  split <;> omega
def retS : Sts → Bool
 | .nil => false
 | .cons h _ b e r => (h.kind == 8 || (h.kind == 4 && (retS b && retS e))) || retS r
theorem vars108 : ∀ (n : Nat) (l : Sts) (v : Value) (w : World), l.sz < n → l.sz ≤ 100000000 → SlS w false none l v →
  Calls Tryz.prog 108 #[v] w fun e w' => e = .returned (.int .i64 ((varsS l : Nat) : Int)) ∧ Below w.heap.size w w' := by
 intro n
 induction n with
 | zero => intro l v w hn; omega
 | succ n ih =>
  have IH := hid ih
  clear ih
  intro l v w hn hs hv
  obtain ⟨ka, b, off, c, rfl, hka, hin⟩ := hv
  have hl := l.len_le
  have hh : varsS l ≤ l.sz := varsS_le l
  have hS := hid (And.intro hn hs)
  have hI := hid hin
  have hkb : l.len ≤ 100000000 := by omega
  have hhb : varsS l ≤ 100000000 := by omega
  obtain ⟨len, hlen⟩ : ∃ m, m = l.len := ⟨_, rfl⟩
  obtain ⟨H, hH⟩ : ∃ m, m = varsS l := ⟨_, rfl⟩
  rw [← hlen] at hka hl hkb ⊢
  rw [← hH] at hhb ⊢
  have hLen := hid hlen
  have hHt := hid hH
  clear hn hs hin hlen hH hh hl
  go_enter Tryz.func108, Tryz.ntmps108
  go_wp2_with fail
  go_loopw [3, 8] (fun z i wr => ∃ (k m : Nat) (r : Sts), z = .int .i64 m ∧ k + r.len = len ∧ i = .int .i64 k ∧ StsIn w false none r b off k ∧ r.sz ≤ l.sz ∧ H = m + varsS r ∧ Below w.heap.size w wr) (fun _ i _ => len - (intOf i).toNat)
  case atStart => exact ⟨0, 0, l, rfl, by have := hLen.out; omega, rfl, hI.out, Nat.le_refl _, by rw [hHt.out]; simp, Below.refl _ _⟩
  case round =>
   clear hI
   obtain ⟨k, m, r, rfl, hk, rfl, hr, hz, hm, hb⟩ := hrel
   obtain ⟨wo, rfl⟩ : ∃ wo : World, wo = wr := ⟨_, rfl⟩
   have hB := hid hb
   have hM := hid hm
   cases r with
   | nil =>
    simp only [Sts.len, Nat.add_zero] at hk
    subst k
    have hm2 : Hid (H = m) := hid (by rw [hm]; simp [varsS])
    have hmb : m ≤ 100000000 := by have := hm2.out; omega
    clear hr hz hm hb
    go_wp2_with fail
    go_ret
    exact ⟨ret_int (by rw [hm2.out]), hB.out⟩
   | cons h x body els rest =>
    simp only [Sts.len, Sts.sz] at hk hz
    obtain ⟨⟨⟨t, y0, _⟩, y1, y2, y3, y4⟩, ⟨vx, y5, hx⟩, ⟨vb, y6, hbd⟩, ⟨ve, y7, he⟩, hR⟩ := hr.cons
    have x0 := cell_on y0 hb
    have x1 := cell_on y1 hb
    have x2 := cell_on y2 hb
    have x3 := cell_on y3 hb
    have x4 := cell_on y4 hb
    have x5 := cell_on y5 hb
    have x6 := cell_on y6 hb
    have x7 := cell_on y7 hb
    have hkk : k < len := by omega
    have hka2 : ka = some ⟨b, off, none⟩ := by rcases hka with q | q; (· omega); (· exact q.1)
    subst hka2
    obtain ⟨xa, xc, rfl⟩ := hx.shape'
    obtain ⟨ba, bc, rfl⟩ := hbd.shape'
    obtain ⟨ea, ec, rfl⟩ := he.shape'
    obtain ⟨xb, xo, hxa, hxin⟩ : ∃ xb xo, (x.len = 0 ∨ xa = some ⟨xb, xo, none⟩) ∧ ExsIn w false none x xb xo 0 := by
     obtain ⟨ka', kb, koff, kcap, hv, y2, y3⟩ := hx
     cases hv
     exact ⟨kb, koff, y2.imp And.left And.left, y3⟩
    have hxl := x.len_le
    have hxlen : x.len ≤ 100000000 := by have := hS.out; omega
    obtain ⟨a0, a1, a2, a3, a4⟩ := h
    have hXI := hid hxin
    have hSz := hid hz
    have hRR := hid hR
    have hXv := hid hx
    have hcb := hid (fun (w2 : World) (h2 : Below w.heap.size w w2) => IH.out body (.slice ba body.len bc) w2 (by have := hS.out; have := hSz.out; omega) (by have := hS.out; have := hSz.out; omega) (hbd.mono h2))
    have hce := hid (fun (w2 : World) (h2 : Below w.heap.size w w2) => IH.out els (.slice ea els.len ec) w2 (by have := hS.out; have := hSz.out; omega) (by have := hS.out; have := hSz.out; omega) (he.mono h2))
    have hbb : varsS body ≤ body.sz := varsS_le body
    have heb : varsS els ≤ els.sz := varsS_le els
    have hbb2 : varsS body ≤ 100000000 := by have := hS.out; omega
    have heb2 : varsS els ≤ 100000000 := by have := hS.out; omega
    obtain ⟨Hb, hHb⟩ : ∃ m, m = varsS body := ⟨_, rfl⟩
    obtain ⟨He, hHe⟩ : ∃ m, m = varsS els := ⟨_, rfl⟩
    rw [← hHb] at hbb hbb2
    rw [← hHe] at heb heb2
    have hHB := hid hHb
    have hHE := hid hHe
    rw [← hHb] at hcb
    rw [← hHe] at hce
    have hmb : m + (1 + Hb + He) ≤ 100000001 := by have := hM.out; simp only [varsS] at this; rw [← hHB.out, ← hHE.out] at this; omega
    have hS1 := hid (SB1.new hb #[.int .i64 t, .int .u8 a1, .string a2, .int .u8 a3, .string a4, .slice xa x.len xc, .slice ba body.len bc, .slice ea els.len ec] 109)
    clear hka hr hx hbd he hR hb y0 y1 y2 y3 y4 y5 y6 y7 hxin hxl hm hz hHb hHe hxa hxlen hXI hXv
    by_cases hk1 : a1 = 1
    ·subst hk1
     go_wp2_with fail
     clear x0 x1 x2 x3 x4 x5 x6 x7
     refine wp_region_held_drew (S := (SB1 w wo.heap.size #[.int .i64 t, .int .u8 1, .string a2, .int .u8 a3, .string a4, .slice xa x.len xc, .slice ba body.len bc, .slice ea els.len ec] 109)) (by kernel_rfl) hS1.out.drew (fun hHeld => ?_)
     clear hS1
     refine tk 0 ?_
     refine tk 1 ?_
     refine tk 2 ?_ (hy := by intro w' hSw; have c6 := hSw.box.cell 6; have c7 := hSw.box.cell 7; simp at c6 c7; go_simp; (try with_reducible rfl))
     refine tk 4 ?_
     refine tk 5 ?_ (hy := by intro w' hSw; have c6 := hSw.box.cell 6; have c7 := hSw.box.cell 7; simp at c6 c7; go_simp; (try with_reducible rfl))
     refine tr 3 fun K hK => ?_
     go_simp
     go_at_call 108
     refine (hcb.out _ hHeld.below).mono ?_
     rintro e w2 ⟨rfl, hb2⟩
     have hk := hHeld.on hb2
     clear hHeld hb2
     go_wp2_with fail
     refine hK.out _ _ hk (fun hHeld => ?_)
     clear hK K hk
     try simp only [tpa, tpb, tpc, tpd, tpe]
     refine tr 6 fun K hK => ?_
     go_simp
     go_at_call 108
     refine (hce.out _ hHeld.below).mono ?_
     rintro e w2 ⟨rfl, hb2⟩
     have hk := hHeld.on hb2
     clear hHeld hb2
     go_wp2_with fail
     refine hK.out _ _ hk (fun hHeld => ?_)
     clear hK K hk
     try simp only [tpa, tpb, tpc, tpd, tpe]
     refine tk 7 ?_
     refine tk 8 ?_
     refine tk 9 ?_
     refine td ?_
     have hX := hid hHeld
     clear hHeld
     rw [show IntKind.i64.wrap ((Hb : Int) + (He : Int)) = (Hb : Int) + (He : Int) from IntWalk.i64_in _ (by omega), show IntKind.i64.wrap (((m : Int) + 1) + ((Hb : Int) + (He : Int))) = ((m : Int) + 1) + ((Hb : Int) + (He : Int)) from IntWalk.i64_in _ (by omega)]
     go_wp2_with fail
     go_roundw
     case rel => exact ⟨k + 1, m + 1 + (Hb + He), rest, by first | rfl | go_num | (congr 1; omega), by omega, by go_num, hRR.out, by have := hSz.out; omega, by rw [hM.out]; simp only [varsS]; rw [hHB.out, hHE.out]; simp; omega, hX.out.below⟩
     case measure => simp [intOf]; omega
    ·go_wp2_with fail
     clear x0 x1 x2 x3 x4 x5 x6 x7
     refine wp_region_held_drew (S := (SB1 w wo.heap.size #[.int .i64 t, .int .u8 a1, .string a2, .int .u8 a3, .string a4, .slice xa x.len xc, .slice ba body.len bc, .slice ea els.len ec] 109)) (by kernel_rfl) hS1.out.drew (fun hHeld => ?_)
     clear hS1
     refine tk 0 ?_
     refine tk 1 ?_
     refine tk 2 ?_ (hy := by intro w' hSw; have c6 := hSw.box.cell 6; have c7 := hSw.box.cell 7; simp at c6 c7; go_simp; (try with_reducible rfl))
     refine tk 4 ?_
     refine tk 5 ?_ (hy := by intro w' hSw; have c6 := hSw.box.cell 6; have c7 := hSw.box.cell 7; simp at c6 c7; go_simp; (try with_reducible rfl))
     refine tr 3 fun K hK => ?_
     go_simp
     go_at_call 108
     refine (hcb.out _ hHeld.below).mono ?_
     rintro e w2 ⟨rfl, hb2⟩
     have hk := hHeld.on hb2
     clear hHeld hb2
     go_wp2_with fail
     refine hK.out _ _ hk (fun hHeld => ?_)
     clear hK K hk
     try simp only [tpa, tpb, tpc, tpd, tpe]
     refine tr 6 fun K hK => ?_
     go_simp
     go_at_call 108
     refine (hce.out _ hHeld.below).mono ?_
     rintro e w2 ⟨rfl, hb2⟩
     have hk := hHeld.on hb2
     clear hHeld hb2
     go_wp2_with fail
     refine hK.out _ _ hk (fun hHeld => ?_)
     clear hK K hk
     try simp only [tpa, tpb, tpc, tpd, tpe]
     refine tk 7 ?_
     refine tk 8 ?_
     refine tk 9 ?_
     refine td ?_
     have hX := hid hHeld
     clear hHeld
     rw [show IntKind.i64.wrap ((Hb : Int) + (He : Int)) = (Hb : Int) + (He : Int) from IntWalk.i64_in _ (by omega), show IntKind.i64.wrap ((m : Int) + ((Hb : Int) + (He : Int))) = (m : Int) + ((Hb : Int) + (He : Int)) from IntWalk.i64_in _ (by omega)]
     go_wp2_with fail
     go_roundw
     case rel => exact ⟨k + 1, m + (Hb + He), rest, by first | rfl | go_num | (congr 1; omega), by omega, by go_num, hRR.out, by have := hSz.out; omega, by rw [hM.out]; simp only [varsS]; rw [hHB.out, hHE.out]; simp [hk1]; omega, hX.out.below⟩
     case measure => simp [intOf]; omega
theorem returns112 : ∀ (n : Nat) (l : Sts) (v : Value) (w : World), l.sz < n → l.sz ≤ 100000000 → SlS w false none l v →
  Calls Tryz.prog 112 #[v] w fun e w' => e = .returned (.bool (retS l)) ∧ Below w.heap.size w w' := by
 intro n
 induction n with
 | zero => intro l v w hn; omega
 | succ n ih =>
  have IH := hid ih
  clear ih
  intro l v w hn hs hv
  obtain ⟨ka, b, off, c, rfl, hka, hin⟩ := hv
  have hl := l.len_le
  have hS := hid (And.intro hn hs)
  have hI := hid hin
  have hkb : l.len ≤ 100000000 := by omega
  obtain ⟨len, hlen⟩ : ∃ m, m = l.len := ⟨_, rfl⟩
  obtain ⟨H, hH⟩ : ∃ m, m = retS l := ⟨_, rfl⟩
  rw [← hlen] at hka hl hkb ⊢
  rw [← hH]
  have hLen := hid hlen
  have hHt := hid hH
  clear hn hs hin hlen hH hl
  go_enter Tryz.func112, Tryz.ntmps112
  go_wp2_with fail
  go_loopw [7] (fun i wr => ∃ (k : Nat) (r : Sts), k + r.len = len ∧ i = .int .i64 k ∧ StsIn w false none r b off k ∧ r.sz ≤ l.sz ∧ H = retS r ∧ Below w.heap.size w wr) (fun i _ => len - (intOf i).toNat)
  case atStart => exact ⟨0, l, by have := hLen.out; omega, rfl, hI.out, Nat.le_refl _, hHt.out, Below.refl _ _⟩
  case round =>
   clear hI
   obtain ⟨k, r, hk, rfl, hr, hz, hm, hb⟩ := hrel
   obtain ⟨wo, rfl⟩ : ∃ wo : World, wo = wr := ⟨_, rfl⟩
   have hB := hid hb
   have hM := hid hm
   cases r with
   | nil =>
    simp only [Sts.len, Nat.add_zero] at hk
    have hm2 : Hid (H = false) := hid (by rw [hm]; simp [retS])
    clear hr hz hm hb
    obtain rfl : len = k := hk.symm
    go_wp2_with fail
    go_ret
    exact ⟨ret_bool (by rw [hm2.out]), hB.out⟩
   | cons h x body els rest =>
    simp only [Sts.len, Sts.sz] at hk hz
    obtain ⟨⟨⟨t, y0, _⟩, y1, y2, y3, y4⟩, ⟨vx, y5, hx⟩, ⟨vb, y6, hbd⟩, ⟨ve, y7, he⟩, hR⟩ := hr.cons
    have x0 := cell_on y0 hb
    have x1 := cell_on y1 hb
    have x2 := cell_on y2 hb
    have x3 := cell_on y3 hb
    have x4 := cell_on y4 hb
    have x5 := cell_on y5 hb
    have x6 := cell_on y6 hb
    have x7 := cell_on y7 hb
    have hkk : k < len := by omega
    have hka2 : ka = some ⟨b, off, none⟩ := by rcases hka with q | q; (· omega); (· exact q.1)
    subst hka2
    obtain ⟨xa, xc, rfl⟩ := hx.shape'
    obtain ⟨ba, bc, rfl⟩ := hbd.shape'
    obtain ⟨ea, ec, rfl⟩ := he.shape'
    obtain ⟨a0, a1, a2, a3, a4⟩ := h
    have hSz := hid hz
    have hRR := hid hR
    have hcb := hid (fun (w2 : World) (h2 : Below w.heap.size w w2) => IH.out body (.slice ba body.len bc) w2 (by have := hS.out; have := hSz.out; omega) (by have := hS.out; have := hSz.out; omega) (hbd.mono h2))
    have hce := hid (fun (w2 : World) (h2 : Below w.heap.size w w2) => IH.out els (.slice ea els.len ec) w2 (by have := hS.out; have := hSz.out; omega) (by have := hS.out; have := hSz.out; omega) (he.mono h2))
    have hS1 := hid (SB1.new hb #[.int .i64 t, .int .u8 a1, .string a2, .int .u8 a3, .string a4, .slice xa x.len xc, .slice ba body.len bc, .slice ea els.len ec] 109)
    clear hka hr hx hbd he hR hb y0 y1 y2 y3 y4 y5 y6 y7 hm hz
    by_cases h8 : a1 = 8
    ·subst h8
     go_wp2_with fail
     go_ret
     exact ⟨ret_bool (by rw [hM.out]; simp only [retS]; simp [true_and]), hS1.out.below⟩
    by_cases h4 : a1 = 4
    ·subst h4
     go_wp2_with fail
     refine (hcb.out _ hS1.out.below).mono ?_
     rintro e w2 ⟨rfl, hb2⟩
     have hS2 := hid (hS1.out.on hb2)
     have p7 := hS2.out.box.cell 7
     simp at p7
     clear hb2 hcb x0 x1 x2 x3 x4 x5 x6 x7
     cases hrb : retS body
     case false =>
      go_wp2_with fail
      exact ⟨⟨k + 1, rest, by omega, by go_num, hRR.out, by have := hSz.out; omega, by rw [hM.out]; simp only [retS]; simp [hrb], hS2.out.below⟩, by simp only [intOf]; omega⟩
     case true =>
      go_wp2_with fail
      refine (hce.out _ hS2.out.below).mono ?_
      rintro e w3 ⟨rfl, hb3⟩
      have hS3 := hid (hS2.out.on hb3)
      clear hb3 hce p7
      cases hre : retS els
      case false =>
       go_wp2_with fail
       exact ⟨⟨k + 1, rest, by omega, by go_num, hRR.out, by have := hSz.out; omega, by rw [hM.out]; simp only [retS]; simp [hrb, hre], hS3.out.below⟩, by simp only [intOf]; omega⟩
      case true =>
       go_wp2_with fail
       go_ret
       exact ⟨ret_bool (by rw [hM.out]; simp only [retS]; simp [hrb, hre]), hS3.out.below⟩
    go_wp2_with fail
    exact ⟨⟨k + 1, rest, by omega, by go_num, hRR.out, by have := hSz.out; omega, by rw [hM.out]; simp only [retS]; simp [h8, h4], hS1.out.below⟩, by simp only [intOf]; omega⟩
end
section
open Go.Shelf
structure ChR (w0 : World) (vs : List (ByteArray × (Int × Int))) (cs : List (ByteArray × Sig)) (ret : Int) (vb cb C : Nat) (ss : List Scope) (lp : Nat) (g cap : Nat) (ms : List Nat) (st cnt : Int) (w : World) : Prop where
 box : Bx w C #[.map (some vb), .map (some cb), .slice (some ⟨g, 0, none⟩) ss.length cap, .int .u8 ret, .int .i64 st, .int .i64 cnt, .int .i64 lp] 193
 row : w.ownsRow w0.heap.size 194 1 (.slice (some ⟨g, 0, none⟩) ss.length cap) ss.length (ms.map fun m => .map (some m))
 len : ms.length = ss.length
 maps : ∀ i (h1 : i < ms.length) (h2 : i < ss.length), Mp w ms[i] (scv ss[i])
 nd : ms.Nodup
 far : ∀ m ∈ ms, w0.heap.size ≤ m
 at_ : w0.heap.size ≤ C
 nm : NmR w0 vs cs vb cb
 below : Below w0.heap.size w0 w
theorem Bx.not_map {w : World} {q : Nat} {bs : Array Value} {t : TypeId} (h : Bx w q bs t) {b : Nat} {l : List (ByteArray × Value)} (hm : Mp w b l) : b ≠ q := fun e => by
 obtain ⟨es, c, hm, _⟩ := hm
 subst e
 unfold Bx at h
 rw [h] at hm
 cases hm
theorem row_not_map {w : World} {g base : Nat} {e : TypeId} {size : Nat} {n c : Nat} {xs : List Value} (h : w.ownsRow base e size (.slice (some ⟨g, 0, none⟩) n c) n xs) {b : Nat} {l : List (ByteArray × Value)} (hm : Mp w b l) : b ≠ g := fun e => by
 obtain ⟨es, c, hm, _⟩ := hm
 subst e
 rcases h.2 with ⟨h, _⟩ | ⟨g', cap', cur, hv, _, hg, _⟩
 ·cases h
 ·cases hv
  rw [hg] at hm
  cases hm
theorem row_not_box {w : World} {q : Nat} {bs : Array Value} {t e : TypeId} (h : Bx w q bs t) {g base size n c : Nat} {xs : List Value} (hown : w.ownsRow base e size (.slice (some ⟨g, 0, none⟩) n c) n xs) (hte : t ≠ e) : g ≠ q := fun e1 => h.not_row hown hte (by simp [Value.ownBlock, e1])
theorem ownsRow_succ' {w : World} {base : Nat} {e : TypeId} {size : Nat} {v : Value} {n : Nat} {xs : List Value} (h : w.ownsRow base e size v (n + 1) xs) : ∃ g cap, v = .slice (some ⟨g, 0, none⟩) (n + 1) cap := by
 rcases h.2 with ⟨_, h⟩ | ⟨g, cap, cur, rfl, _⟩
 ·omega
 ·exact ⟨g, cap, rfl⟩
section
variable {w0 : World} {vs : List (ByteArray × (Int × Int))} {cs : List (ByteArray × Sig)} {ret : Int} {vb cb C : Nat} {ss : List Scope} {lp : Nat} {g cap : Nat} {ms : List Nat} {st cnt : Int} {w w' : World}
theorem ChR.ck (h : ChR w0 vs cs ret vb cb C ss lp g cap ms st cnt w) (hl : ss.length ≤ 100000000) : CkR w vs cs C ss vb cb g cap ms where
 c0 := h.box.cell 0
 c1 := h.box.cell 1
 c2 := h.box.cell 2
 nm := h.nm.mono h.below
 sc := ⟨fun i hi => by rw [h.row.cellAt i (by have := h.len; omega)]; simp [hi], h.len, h.maps⟩
 le := hl
theorem ChR.on (h : ChR w0 vs cs ret vb cb C ss lp g cap ms st cnt w) (hb : Below w.heap.size w w') : ChR w0 vs cs ret vb cb C ss lp g cap ms st cnt w' :=
 ⟨h.box.on (grown_of_below hb) (by simp), ownsRow_at h.row hb, h.len, fun i h1 h2 => (h.maps i h1 h2).mono hb, h.nd, h.far, h.at_, h.nm, h.below.trans (hb.mono h.below.size)⟩
theorem ChR.turn (h : ChR w0 vs cs ret vb cb C ss lp g cap ms st cnt w) (hg : w.grownBy w' (some C)) {lp' : Nat} {st' cnt' : Int}
  (hbx : Bx w' C #[.map (some vb), .map (some cb), .slice (some ⟨g, 0, none⟩) ss.length cap, .int .u8 ret, .int .i64 st', .int .i64 cnt', .int .i64 lp'] 193) : ChR w0 vs cs ret vb cb C ss lp' g cap ms st' cnt' w' :=
 ⟨hbx, h.row.kept hg (.inr (by have := row_not_box h.box h.row (by decide); simp [Value.ownBlock, this])), h.len, fun i h1 h2 => (h.maps i h1 h2).on hg (by have := h.box.not_map (h.maps i h1 h2); simpa using this), h.nd, h.far, h.at_, h.nm, h.below.grown hg h.below.size (fun k e => by cases e; exact h.at_)⟩
theorem ChR.push {w1 w2 w3 : World} {v' : Value} (h : ChR w0 vs cs ret vb cb C ss lp g cap ms st cnt w) (h1 : w1 = w.alloc (.map #[] 0))
  (hA : Appended w1 w2 w0.heap.size 194 1 (.slice (some ⟨g, 0, none⟩) ss.length cap) v' ss.length 1 (ms.map fun m => .map (some m)) [.map (some w.heap.size)]) (hg : w2.grownBy w3 (some C))
  (hbx : Bx w3 C #[.map (some vb), .map (some cb), v', .int .u8 ret, .int .i64 st, .int .i64 cnt, .int .i64 lp] 193) : ∃ g' cap', v' = .slice (some ⟨g', 0, none⟩) (ss.length + 1) cap' ∧ ChR w0 vs cs ret vb cb C (ss ++ [[]]) lp g' cap' (ms ++ [w.heap.size]) st cnt w3 := by
 obtain ⟨g', cap', rfl⟩ := ownsRow_succ' hA.own
 have b1 : Below w.heap.size w w1 := by rw [h1]; exact (Below.refl _ w).alloc (Nat.le_refl _) _
 have r1 := ownsRow_at h.row b1
 have x1 : Bx w1 C _ 193 := h.box.on (grown_of_below b1) (by simp)
 have x2 : Bx w2 C _ 193 := x1.on hA.grown (x1.not_row r1 (by decide))
 have m1 : Mp w1 w.heap.size (scv []) := by rw [h1]; exact Mp.new w
 have gr : ∀ {b l}, Mp w1 b l → Mp w3 b l := fun {b l} hm => by
  have hm2 : Mp w2 b l := hm.on hA.grown (by have := row_not_map r1 hm; simp [Value.ownBlock, this])
  exact hm2.on hg (by have := x2.not_map hm2; simpa using this)
 have r3 : w3.ownsRow w0.heap.size 194 1 (.slice (some ⟨g', 0, none⟩) (ss.length + 1) cap') (ss.length + 1) (ms.map (fun m => .map (some m)) ++ [.map (some w.heap.size)]) := hA.own.kept hg (.inr (by have := row_not_box x2 hA.own (by decide); simp [Value.ownBlock, this]))
 refine ⟨g', cap', rfl, by simpa using hbx, by simpa using r3, by simp [h.len], ?_, ?_, ?_, h.at_, h.nm, ?_⟩
 ·intro i h1' h2'
  by_cases hi : i < ss.length
  ·have e1 : (ms ++ [w.heap.size])[i] = ms[i]'(by have := h.len; omega) := List.getElem_append_left (by have := h.len; omega)
   have e2 : (ss ++ [[]])[i] = ss[i] := List.getElem_append_left hi
   rw [e1, e2]
   exact gr ((h.maps i (by have := h.len; omega) hi).mono b1)
  ·have hi2 : i = ss.length := by simp at h2'; omega
   have e1 : (ms ++ [w.heap.size])[i] = w.heap.size := by rw [List.getElem_append_right (by have := h.len; omega)]; simp
   have e2 : (ss ++ [[]])[i] = [] := by rw [List.getElem_append_right (by omega)]; simp
   rw [e1, e2]
   exact gr m1
 ·rw [List.nodup_append]
  refine ⟨h.nd, by simp, fun a ha b hb => ?_⟩
  obtain ⟨i, hi, rfl⟩ := List.getElem_of_mem ha
  have := (h.maps i hi (by have := h.len; omega)).lt
  simp at hb
  omega
 ·intro m hm
  rcases List.mem_append.1 hm with hm | hm
  ·exact h.far m hm
  ·simp at hm
   rw [hm]
   exact h.below.size
 ·have s1 : w0.heap.size ≤ w1.heap.size := Nat.le_trans h.below.size b1.size
  exact ((h.below.trans (b1.mono h.below.size)).trans (app_below hA r1 s1)).grown hg (Nat.le_trans s1 hA.grown.size) (fun k e => by cases e; exact h.at_)
theorem ChR.pop {c : Scope} (h : ChR w0 vs cs ret vb cb C (ss ++ [c]) lp g cap ms st cnt w) (hg : w.grownBy w' (some C))
  (hbx : Bx w' C #[.map (some vb), .map (some cb), .slice (some ⟨g, 0, none⟩) ss.length cap, .int .u8 ret, .int .i64 st, .int .i64 cnt, .int .i64 lp] 193) : ChR w0 vs cs ret vb cb C ss lp g cap ms.dropLast st cnt w' := by
 have h2 := h.turn hg (lp' := lp) (st' := st) (cnt' := cnt)
 have hl := h.len
 simp at hl
 have r2 : w'.ownsRow w0.heap.size 194 1 (.slice (some ⟨g, 0, none⟩) (ss ++ [c]).length cap) (ss ++ [c]).length (ms.map fun m => .map (some m)) := h.row.kept hg (.inr (by have := row_not_box h.box h.row (by decide); simp [Value.ownBlock, this]))
 have b2 : Below w0.heap.size w0 w' := h.below.grown hg h.below.size (fun k e => by cases e; exact h.at_)
 refine ⟨hbx, ?_, by simp [hl], ?_, h.nd.sublist (List.dropLast_sublist _), fun m hm => h.far m (List.dropLast_subset _ hm), h.at_, h.nm, b2⟩
 ·obtain ⟨r3, r4⟩ := r2
  rcases r4 with ⟨h, _⟩ | ⟨g', cap', cur, hv, r5, r6, r7, r8, r9, r10⟩
  ·cases h
  ·cases hv
   refine ⟨by simp [hl], .inr ⟨_, _, cur, rfl, r5, r6, by simp at r7; omega, r8, r9, ?_⟩⟩
   have := congrArg (List.take ss.length) r10
   rw [List.take_take] at this
   simp only [List.length_append, List.length_singleton] at this
   rw [show min ss.length ((ss.length + 1) * 1) = ss.length * 1 by omega] at this
   rw [this, List.dropLast_eq_take, hl, ← List.map_take]
   rfl
 ·intro i h1 h3
  have hi : i < ms.length := by simp at h1; omega
  have e1 : ms.dropLast[i] = ms[i] := by simp
  have e2 : (ss ++ [c])[i]'(by simp; omega) = ss[i] := List.getElem_append_left h3
  rw [e1, ← e2]
  exact (h.maps i hi (by simp; omega)).on hg (by have := h.box.not_map (h.maps i hi (by simp; omega)); simpa using this)
theorem ChR.give {c : Scope} {s : ByteArray} {t : Int} (h : ChR w0 vs cs ret vb cb C (ss ++ [c]) lp g cap ms st cnt w) (m : Nat) (hm : ms[ss.length]? = some m) (hg : w.grownBy w' (some m)) (hp : Mp w' m (putM s (.int .u8 t) (scv c))) :
  ChR w0 vs cs ret vb cb C (ss ++ [putM s t c]) lp g cap ms st cnt w' := by
 have hl := h.len
 simp at hl
 have hlt : ss.length < ms.length := by omega
 have hme : ms[ss.length] = m := by rw [List.getElem?_eq_getElem hlt] at hm; simpa using hm
 have hmm : m ∈ ms := by rw [← hme]; exact List.getElem_mem hlt
 have m0 : Mp w m (scv c) := by
  have := h.maps ss.length hlt (by simp)
  rw [hme] at this
  simpa using this
 refine ⟨by simpa using h.box.on hg (by have := h.box.not_map m0; simp [Ne.symm this]), by simpa using h.row.kept hg (.inr (by have := row_not_map h.row m0; simp [Value.ownBlock, Ne.symm this])), by simp [hl], ?_, h.nd, h.far, h.at_, h.nm, h.below.grown hg h.below.size (fun k e => by cases e; exact h.far _ hmm)⟩
 intro i h1 h2
 by_cases hi : i < ss.length
 ·have e2 : (ss ++ [putM s t c])[i] = ss[i] := List.getElem_append_left hi
  have e3 : (ss ++ [c])[i]'(by simp; omega) = ss[i] := List.getElem_append_left hi
  rw [e2, ← e3]
  refine (h.maps i h1 (by simp; omega)).on hg ?_
  intro e
  have e4 : ms[i] = ms[ss.length] := by rw [hme]; simpa using e
  exact List.pairwise_iff_getElem.1 h.nd i ss.length h1 hlt (by omega) e4
 ·have hi2 : i = ss.length := by omega
  subst hi2
  rw [hme]
  have e2 : (ss ++ [putM s t c])[ss.length] = putM s t c := by simp
  rw [e2, scv, ← putM_map (Value.int .u8)]
  exact hp
end
end
section
open Go.Shelf
def unitE {α : Type} : Except Int α → Except Int Unit
 | .error e => .error e
 | .ok _ => .ok ()
section
variable (vs : List (ByteArray × (Int × Int))) (cs : List (ByteArray × Sig)) (ret : Int)
def stF (h : SH) (x : Exs) (rb re rw : Except Int Unit) (ss : List Scope) (c : Scope) (lp : Nat) : Except Int Scope :=
 match tyE vs cs (ss ++ [c]) x with
 | .error er => .error er
 | .ok ts =>
  if h.kind = 1 then
   if (seesS h.name (ss ++ [c])).isSome || hasN vs cs h.name then .error 290
   else if ts.getD 0 0 = h.type then .ok (putM h.name h.type c) else .error 292
  else if h.kind = 2 then
   match varT vs (ss ++ [c]) h.name with
   | .error er => .error er
   | .ok t => if ts.getD 0 0 = t then (match signT h.sign t with
    | .error er => .error er
    | .ok _ => .ok c) else .error 292
  else if h.kind = 3 then
   match arrT vs (ss ++ [c]) h.name with
   | .error er => .error er
   | .ok t => if ts.getD 0 0 = 1 ∧ ts.getD 1 0 = t then (match signT h.sign t with
    | .error er => .error er
    | .ok _ => .ok c) else .error 292
  else if h.kind = 4 then
   if ts.getD 0 0 = 1 then (match rb with
    | .error er => .error er
    | .ok _ => match re with
     | .error er => .error er
     | .ok _ => .ok c) else .error 292
  else if h.kind = 5 then
   if ts.getD 0 0 = 1 then (match rw with
    | .error er => .error er
    | .ok _ => .ok c) else .error 292
  else if h.kind = 6 ∨ h.kind = 7 then if 0 < lp then .ok c else .error 294
  else if h.kind = 8 then if ts.getD 0 0 = ret then .ok c else .error 292
  else .ok c
def chS : Sts → List Scope → Scope → Nat → Except Int Scope
 | .nil, _, c, _ => .ok c
 | .cons h x b e r, ss, c, lp =>
  match stF vs cs ret h x (unitE (chS b (ss ++ [c]) [] lp)) (unitE (chS e (ss ++ [c]) [] lp)) (unitE (chS b (ss ++ [c]) [] (lp + 1))) ss c lp with
  | .error er => .error er
  | .ok c' => chS r ss c' lp
end
def arSH (k : Int) (n : Nat) : Bool := if k = 1 ∨ k = 2 ∨ k = 4 ∨ k = 5 ∨ k = 8 then decide (1 ≤ n) else if k = 3 then decide (2 ≤ n) else true
def arS : Sts → Bool
 | .nil => true
 | .cons h x b e r => arSH h.kind x.len && arE x && arS b && arS e && arS r
def Kp (w w' : World) : Prop := ∀ (q : Nat) (bs : Array Value) (t : TypeId), t ≠ 193 → t ≠ 194 → Bx w q bs t → Bx w' q bs t
structure Bk (B : Nat) (w w' : World) : Prop where
 below : Below B w w'
 kp : Kp w w'
theorem Bk.refl (B : Nat) (w : World) : Bk B w w := ⟨Below.refl _ _, fun _ _ _ _ _ h => h⟩
theorem Bk.size {B : Nat} {w w' : World} (h : Bk B w w') : w.heap.size ≤ w'.heap.size := h.below.size
theorem Bk.trans {B : Nat} {a b c : World} (h : Bk B a b) (k : Bk B b c) : Bk B a c := ⟨h.below.trans k.below, fun q bs t h1 h2 hq => k.kp q bs t h1 h2 (h.kp q bs t h1 h2 hq)⟩
theorem Bk.then {B : Nat} {a b c : World} (h : Bk B a b) (k : Below b.heap.size b c) (hs : B ≤ b.heap.size) : Bk B a c :=
 h.trans ⟨k.mono hs, fun q bs t _ _ hq => hq.on (grown_of_below k) (by simp)⟩
theorem Bx.ne_box {w : World} {q q2 : Nat} {a b : Array Value} {t u : TypeId} (h : Bx w q a t) (k : Bx w q2 b u) (hn : t ≠ u) : q ≠ q2 := fun e => by
 subst e
 unfold Bx at h k
 rw [h] at k
 simp at k
 exact hn k.2
theorem Bk.gr {B : Nat} {a b c : World} {r : Nat} (h : Bk B a b) (hg : b.grownBy c (some r)) (hs : B ≤ b.heap.size) (hr : B ≤ r) (hn : ∀ (q : Nat) (bs : Array Value) (t : TypeId), t ≠ 193 → t ≠ 194 → Bx b q bs t → q ≠ r) : Bk B a c :=
 h.trans ⟨(Below.refl B b).grown hg hs (fun k e => by cases e; exact hr), fun q bs t h1 h2 hq => hq.on hg (by have := hn q bs t h1 h2 hq; simpa using this)⟩
theorem Bk.app {B : Nat} {a b c : World} {size : Nat} {v v' : Value} {n m : Nat} {xs news : List Value} (h : Bk B a b) (hA : Appended b c B 194 size v v' n m xs news) (hown : b.ownsRow B 194 size v n xs) (hs : B ≤ b.heap.size) : Bk B a c :=
 h.trans ⟨app_below hA hown hs, fun q bs t _ h2 hq => hq.on hA.grown (hq.not_row hown h2)⟩
def Post (w0 : World) (vs : List (ByteArray × (Int × Int))) (cs : List (ByteArray × Sig)) (ret : Int) (vb cb C : Nat) (ss : List Scope) (lp : Nat) (w : World) (r : Except Int Unit) (e : Ending) (w' : World) : Prop :=
 Bk w0.heap.size w w' ∧ match r with
  | .error er => e = flt er ∧ ∃ st', w'.cell? ⟨C, 4, none⟩ = some (.int .i64 st')
  | .ok _ => e = .returned (.tuple #[]) ∧ ∃ g cap ms st cnt, ChR w0 vs cs ret vb cb C ss lp g cap ms st cnt w'
def CL (w0 : World) (vs : List (ByteArray × (Int × Int))) (cs : List (ByteArray × Sig)) (ret : Int) (vb cb C : Nat) (n : Nat) : Prop :=
 ∀ (l : Sts) (v : Value) (ss : List Scope) (lp g cap : Nat) (ms : List Nat) (st cnt : Int) (w : World), l.sz < n → ss.length + l.sz ≤ 99999999 → lp + l.sz ≤ 99999999 → arS l = true → SlS w0 false none l v → ChR w0 vs cs ret vb cb C ss lp g cap ms st cnt w →
  Calls Tryz.prog 111 #[.pointer (some ⟨C, 0, none⟩), v] w (Post w0 vs cs ret vb cb C ss lp w (unitE (chS vs cs ret l ss [] lp)))
def CS (w0 : World) (vs : List (ByteArray × (Int × Int))) (cs : List (ByteArray × Sig)) (ret : Int) (vb cb C : Nat) (n : Nat) : Prop :=
 ∀ (t : Int) (h : SH) (x : Exs) (b e : Sts) (vx ve vf : Value) (ss : List Scope) (c : Scope) (lp g cap : Nat) (ms : List Nat) (st cnt : Int) (w : World), b.sz < n → e.sz < n → ss.length + (x.sz + b.sz + e.sz) ≤ 99999998 → lp + (b.sz + e.sz) ≤ 99999998 →
  arSH h.kind x.len = true → arE x = true → arS b = true → arS e = true → SlE w0 false none x vx → SlS w0 false none b ve → SlS w0 false none e vf → ChR w0 vs cs ret vb cb C (ss ++ [c]) lp g cap ms st cnt w →
  Calls Tryz.prog 141 #[.pointer (some ⟨C, 0, none⟩), aggS t h vx ve vf] w fun x' w' => ∃ c', Post w0 vs cs ret vb cb C (ss ++ [c']) lp w (unitE (stF vs cs ret h x (unitE (chS vs cs ret b (ss ++ [c]) [] lp)) (unitE (chS vs cs ret e (ss ++ [c]) [] lp)) (unitE (chS vs cs ret b (ss ++ [c]) [] (lp + 1))) ss c lp)) x' w' ∧
   ∀ c2, stF vs cs ret h x (unitE (chS vs cs ret b (ss ++ [c]) [] lp)) (unitE (chS vs cs ret e (ss ++ [c]) [] lp)) (unitE (chS vs cs ret b (ss ++ [c]) [] (lp + 1))) ss c lp = .ok c2 → c' = c2
theorem grown_setCell (w : World) (a : Addr) (u : Value) : w.grownBy (w.setCell a u) (some a.block) := by
 have := (Below.refl 0 w).setCell (p := a) (Nat.zero_le _) u
 exact ⟨this.os, this.tape, this.output, this.size, fun k hk hn => Below.heap_setCell w a u k (fun e => hn (by rw [e]))⟩
theorem list111 (w0 : World) (vs : List (ByteArray × (Int × Int))) (cs : List (ByteArray × Sig)) (ret : Int) (vb cb C : Nat) (n : Nat) (HS : Hid (CS w0 vs cs ret vb cb C n)) : CL w0 vs cs ret vb cb C (n + 1) := by
 intro l v ss lp g cap ms st cnt w hn hs hlp har hv hck
 obtain ⟨ka, b, off, c, rfl, hka, hin⟩ := hv
 have hl := l.len_le
 have hS := hid (And.intro hn (And.intro hs hlp))
 have hI := hid hin
 have hkb : l.len ≤ 100000000 := by omega
 have hssl : ss.length ≤ 100000000 := by omega
 have AR := hid har
 have CK := hid hck
 obtain ⟨len, hlen⟩ : ∃ m, m = l.len := ⟨_, rfl⟩
 rw [← hlen] at hka hl hkb ⊢
 have hLen := hid hlen
 obtain ⟨w1, hw1⟩ : ∃ x : World, x = w.alloc (.map #[] 0) := ⟨_, rfl⟩
 have hmm : (Instr.makeMap 194 none).run Tryz.prog w = .ok (.map (some w.heap.size)) w1 := by rw [hw1]; exact run_makeMap 194 w
 have p2 := hck.box.cell 2
 simp at p2
 have hb1 : Below w.heap.size w w1 := by rw [hw1]; exact (Below.refl _ w).alloc (Nat.le_refl _) _
 have hr1 := hid (ownsRow_at hck.row hb1)
 have hsz0 : w0.heap.size ≤ w1.heap.size := Nat.le_trans hck.below.size hb1.size
 have hcw := hid (hck.on hb1)
 have HB1 := hid hb1
 have HW1 := hid hw1
 clear hn hs hin har hlen hck hlp hb1 hw1
 go_enter Tryz.func111, Tryz.ntmps111
 go_wp2_with (at_builtin; go_must (refine wpList_append_str rfl _ _ 191 rfl w0.heap.size 194 194 (.map none) 1 8 1 Tryz.underlying191 (by kernel_rfl) rfl (by decide) _ ss.length _ [_] (0, 0) hr1.out rfl (by simp [Value.oneCell']) (by unfold maxLen; omega) (by omega) hsz0 rfl rfl ?_); intro v' w' hA; obtain ⟨g', cap', rfl⟩ := ownsRow_succ' hA.own; have hx2 := hcw.out.box.on hA.grown (hcw.out.box.not_row hr1.out (by decide)); have q2 := hx2.cell 2; simp at q2; have f2 := hx2.free 2; have hX2 := hid hx2; have hA' := hid hA; clear hA hx2)
 have hpush := CK.out.push HW1.out hA'.out (grown_setCell _ ⟨C, 2, none⟩ _) (by simpa using hX2.out.set 2 (.slice (some ⟨g', 0, none⟩) (ss.length + 1) cap'))
 obtain ⟨g2, cap2, hv2, hck2⟩ := hpush
 cases hv2
 have hbb0 := hid (show Bk w0.heap.size w _ from ((((Bk.refl _ w).then HB1.out CK.out.below.size).app hA'.out hr1.out hsz0).gr (grown_setCell _ ⟨C, 2, none⟩ (.slice (some ⟨g', 0, none⟩) (ss.length + 1) cap')) (Nat.le_trans hsz0 hA'.out.grown.size) CK.out.at_ (fun q bs t h1 _ hq => hq.ne_box hX2.out h1)))
 have hck3 := hid hck2
 clear hck2 hA' hX2 hr1 hcw HW1 HB1 hmm p2 hsz0
 go_loopw [18] (fun i wr => ∃ (k : Nat) (r : Sts) (c : Scope) (g cap : Nat) (ms : List Nat) (st cnt : Int), k + r.len = len ∧ i = .int .i64 k ∧ StsIn w0 false none r b off k ∧ r.sz ≤ l.sz ∧ arS r = true ∧ chS vs cs ret l ss [] lp = chS vs cs ret r ss c lp ∧ ChR w0 vs cs ret vb cb C (ss ++ [c]) lp g cap ms st cnt wr ∧ Bk w0.heap.size w wr) (fun i _ => len - (intOf i).toNat)
 case atStart => exact ⟨0, l, [], _, _, _, _, _, by have := hLen.out; omega, rfl, hI.out, Nat.le_refl _, AR.out, rfl, hck3.out, hbb0.out⟩
 case round =>
  clear hI hck3 hbb0
  obtain ⟨k, r, c0, g1, cap1, ms1, st1, cnt1, hk, rfl, hr, hz, hra, hch, hc, hb⟩ := hrel
  have CK1 := hid hc
  have hB := hid hb
  have hCH := hid hch
  have hSz := hid hz
  have p2 := hc.box.cell 2
  simp at p2
  have f2 := hc.box.free 2
  cases r with
  | nil =>
   simp only [Sts.len, Nat.add_zero] at hk
   clear hr hz hra hch hc hb
   obtain rfl : len = k := hk.symm
   have hcp : ss.length + 1 ≤ cap1 ∧ cap1 ≤ 9223372036854775807 := by
    rcases CK1.out.row.2 with ⟨q, _⟩ | ⟨g3, cap3, cur3, hv3, _, _, q1, q2, _⟩
    ·cases q
    ·cases hv3
     simp at q1
     unfold maxLen at q2
     exact ⟨q1, by omega⟩
   obtain ⟨hcp1, hcp2⟩ := hcp
   have hcp3 : ss.length ≤ cap1 := by omega
   have hwr : IntKind.i64.wrap (ss.length : Int) = (ss.length : Int) := IntWalk.i64_in _ (by omega)
   have q3 : wr.drew.cell? ⟨C, 2, none⟩ = some (.slice (some ⟨g1, 0, none⟩) (ss.length + 1) cap1) := p2
   have f3 : wr.drew.frozen? ⟨C, 2, none⟩ = false := f2
   go_wp2_with fail
   go_region
   go_end0
   have hpop := CK1.out.pop (grown_setCell wr ⟨C, 2, none⟩ _) (by simpa using CK1.out.box.set 2 (.slice (some ⟨g1, 0, none⟩) ss.length cap1))
   refine ⟨((hB.out.gr (grown_setCell wr ⟨C, 2, none⟩ _) CK1.out.below.size CK1.out.at_ (fun q bs t h1 _ hq => hq.ne_box CK1.out.box h1))).then (Below.refl _ _).drew (hpop.below.size), ?_⟩
   rw [hCH.out]
   exact ⟨rfl, _, _, _, _, _, hpop.on (Below.refl _ _).drew⟩
  | cons h x body els rest =>
   simp only [Sts.len, Sts.sz] at hk hz
   obtain ⟨⟨⟨t, y0, _⟩, y1, y2, y3, y4⟩, ⟨vx, y5, hx⟩, ⟨vb, y6, hbd⟩, ⟨ve, y7, he⟩, hR⟩ := hr.cons
   have hw0 := hc.below
   have cw0 : ∀ {a : Addr} {u : Value}, w0.cell? a = some u → wr.cell? a = some u := fun {a u} h => (hw0.cell (World.block_lt_of_cell? w0 _ h)).trans h
   have x0 := cw0 y0
   have x1 := cw0 y1
   have x2 := cw0 y2
   have x3 := cw0 y3
   have x4 := cw0 y4
   have x5 := cw0 y5
   have x6 := cw0 y6
   have x7 := cw0 y7
   have hkk : k < len := by omega
   have hka2 : ka = some ⟨b, off, none⟩ := by rcases hka with q | q; (· omega); (· exact q.1)
   subst hka2
   obtain ⟨xa, xc, rfl⟩ := hx.shape'
   obtain ⟨ba, bc, rfl⟩ := hbd.shape'
   obtain ⟨ea, ec, rfl⟩ := he.shape'
   obtain ⟨a0, a1, a2, a3, a4⟩ := h
   simp only [] at x0 x1 x2 x3 x4
   have hRR := hid hR
   simp only [arS, Bool.and_eq_true] at hra
   obtain ⟨⟨⟨⟨r1, r2⟩, r3⟩, r4⟩, r5⟩ := hra
   have hRA := hid r5
   have hBW := hid ((Below.refl wr.heap.size wr).alloc (Nat.le_refl _) (.cells #[.int .i64 t, .int .u8 a1, .string a2, .int .u8 a3, .string a4, .slice xa x.len xc, .slice ba body.len bc, .slice ea els.len ec] 109))
   have cx := hid (HS.out t ⟨a0, a1, a2, a3, a4⟩ x body els (.slice xa x.len xc) (.slice ba body.len bc) (.slice ea els.len ec) ss c0 lp g1 cap1 ms1 st1 cnt1 (wr.alloc (.cells #[.int .i64 t, .int .u8 a1, .string a2, .int .u8 a3, .string a4, .slice xa x.len xc, .slice ba body.len bc, .slice ea els.len ec] 109)) (by have := hS.out; omega) (by have := hS.out; omega) (by have := hS.out; omega) (by have := hS.out; omega) r1 r2 r3 r4 hx hbd he (CK1.out.on hBW.out))
   clear hr hz hc hb hch hR hx hbd he hw0 cw0 y0 y1 y2 y3 y4 y5 y6 y7 r1 r2 r3 r4 r5 p2 f2
   simp only [chS] at hCH
   generalize stF vs cs ret ⟨a0, a1, a2, a3, a4⟩ x (unitE (chS vs cs ret body (ss ++ [c0]) [] lp)) (unitE (chS vs cs ret els (ss ++ [c0]) [] lp)) (unitE (chS vs cs ret body (ss ++ [c0]) [] (lp + 1))) ss c0 lp = SR at hCH cx
   cases SR with
   | error er =>
    go_wp2_with fail
    refine cx.out.mono ?_
    rintro e w2 ⟨c', ⟨hb2, he, st2, hst⟩, -⟩
    obtain rfl : e = flt er := he
    have hB2 := hid hb2
    have hST := hid hst
    clear hb2 cx hst
    go_wp2_with fail
    refine bp_panic ⟨?_, ?_⟩
    ·exact (hB.out.then hBW.out CK1.out.below.size).trans hB2.out
    ·rw [hCH.out]
     exact ⟨rfl, _, hST.out⟩
   | ok c2 =>
    go_wp2_with fail
    refine cx.out.mono ?_
    rintro e w2 ⟨c', ⟨hb2, he, g2, cap2, ms2, st2, cnt2, hck2⟩, hc2⟩
    obtain rfl : e = .returned (.tuple #[]) := he
    obtain rfl : c' = c2 := hc2 _ rfl
    have hB2 := hid hb2
    have CK2 := hid hck2
    clear hb2 cx hck2 hc2
    go_wp2_with fail
    exact ⟨⟨k + 1, rest, c', g2, cap2, ms2, st2, cnt2, by omega, by go_num, hRR.out, by have := hSz.out; simp only [Sts.sz] at this; omega, hRA.out, by rw [hCH.out], CK2.out, (hB.out.then hBW.out CK1.out.below.size).trans hB2.out⟩, by simp only [intOf]; omega⟩
end
end Go.Proofs.YtlabadkfkbenoaaGreatDoor
