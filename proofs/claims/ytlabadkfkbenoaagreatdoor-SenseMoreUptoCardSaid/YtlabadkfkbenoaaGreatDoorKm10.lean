/- Walks and plain laws, merged: SenN SenO SenR. No condition. -/
import Derived.Outline
import Derived.Deep.RegionHeld3
import Derived.Test.YtlabadkfkbenoaaGreatDoorKm01
import Derived.Test.YtlabadkfkbenoaaGreatDoorKm09
import Derived.Test.YtlabadkfkbenoaaGreatDoorKm07
import Derived.Laws.ResultCell
import Derived.Lib.SliceRun
import Derived.Test.YtlabadkfkbenoaaGreatDoorKm04
namespace Go.Proofs.YtlabadkfkbenoaaGreatDoor
open Go.RowKit
set_option linter.unusedVariables false
set_option linter.unusedSimpArgs false
set_option maxRecDepth 100000
set_option maxHeartbeats 64000000
section
open Go.Shelf
theorem Mp.boxes {w w' : World} {P q : Nat} {l : List (ByteArray × Value)} {cs : Array Value} {t : TypeId} (h : Bx w q cs t) (hm : Mp w P l) (hg : w.grownBy w' (some P)) : Bx w' q cs t :=
 h.on hg (by have := h.not_map hm; simp; exact fun e => this e.symm)
structure F65 (w : World) (vs : List (ByteArray × (Int × Int))) (cs : List (ByteArray × Sig)) (vb cb n : Nat) (box : Array Value) (ty : Int) (sc : Scope) (wr : World) : Prop where
 b0 : Bx wr n #[.map (some vb), .map (some cb)] 91
 b1 : Bx wr (n + 1) box 43
 b2 : Bx wr (n + 1 + 1) #[.map (some vb), .map (some cb), .slice none 0 0, .int .u8 ty, .int .i64 0, .int .i64 0, .int .i64 0] 193
 b3 : Bx wr (n + 1 + 1 + 1) #[.pointer (some ⟨n + 1 + 1, 0, none⟩)] 189
 mp : Mp wr (n + 1 + 1 + 1 + 1) (scv sc)
 below : Below n w wr
theorem F65.on {w wr w' : World} {vs : List (ByteArray × (Int × Int))} {cs : List (ByteArray × Sig)} {vb cb n : Nat} {box : Array Value} {ty : Int} {sc : Scope} (h : F65 w vs cs vb cb n box ty sc wr) (hb : Below wr.heap.size wr w') : F65 w vs cs vb cb n box ty sc w' :=
 ⟨h.b0.on (grown_of_below hb) (by simp), h.b1.on (grown_of_below hb) (by simp), h.b2.on (grown_of_below hb) (by simp), h.b3.on (grown_of_below hb) (by simp), h.mp.mono hb, h.below.trans (hb.mono (by have := h.b0.lt; omega))⟩
theorem F65.put {w wr w' : World} {vs : List (ByteArray × (Int × Int))} {cs : List (ByteArray × Sig)} {vb cb n : Nat} {box : Array Value} {ty : Int} {sc sc' : Scope} (h : F65 w vs cs vb cb n box ty sc wr) (hg : wr.grownBy w' (some (n + 1 + 1 + 1 + 1))) (hm : Mp w' (n + 1 + 1 + 1 + 1) (scv sc')) : F65 w vs cs vb cb n box ty sc' w' :=
 ⟨h.mp.boxes h.b0 hg, h.mp.boxes h.b1 hg, h.mp.boxes h.b2 hg, h.mp.boxes h.b3 hg, hm, h.below.grown hg (by have := h.b0.lt; omega) (fun k e => by cases e; omega)⟩
theorem F65.start {w wr : World} {vs : List (ByteArray × (Int × Int))} {cs : List (ByteArray × Sig)} {vb cb : Nat} {box : Array Value} {ty : Int} {sc : Scope} (h : F65 w vs cs vb cb w.heap.size box ty sc wr) (hnm : NmR w vs cs vb cb) :
  ChR w vs cs ty vb cb (w.heap.size + 1 + 1) [sc] 0 wr.heap.size 1 [w.heap.size + 1 + 1 + 1 + 1] 0 0 ((wr.alloc (.cells #[.map (some (w.heap.size + 1 + 1 + 1 + 1))] 194)).setCell ⟨w.heap.size + 1 + 1, 2, none⟩ (.slice (some ⟨wr.heap.size, 0, none⟩) 1 1)) := by
 have hlt := h.mp.lt
 have hg := grown_setCell (wr.alloc (.cells #[.map (some (w.heap.size + 1 + 1 + 1 + 1))] 194)) ⟨w.heap.size + 1 + 1, 2, none⟩ (.slice (some ⟨wr.heap.size, 0, none⟩) 1 1)
 have hx := (Bx.new wr #[.map (some (w.heap.size + 1 + 1 + 1 + 1))] 194).on hg (by simp; omega)
 refine ⟨by simpa using (h.b2.al _).set 2 (.slice (some ⟨wr.heap.size, 0, none⟩) 1 1), ⟨by simp, .inr ⟨wr.heap.size, 1, _, rfl, h.below.size, hx, by simp, by decide, by simp, by simp⟩⟩, by simp, ?_, by simp, ?_, by omega, hnm, ?_⟩
 ·intro i h1 h2
  simp at h1
  subst i
  exact (h.mp.al _).on hg (by simp; omega)
 ·intro m hm
  simp at hm
  omega
 ·exact (h.below.alloc (by have := h.below.size; omega) _).setCell (by simp; omega) _
theorem function65 (vs : List (ByteArray × (Int × Int))) (cs : List (ByteArray × Sig)) (vb cb : Nat) (t : Int) (f : FH) (pv bv : Value) (w : World) (hnm : NmR w vs cs vb cb) (hp : Hid (∀ s x, getM s cs = some x → x.params.length ≤ 100000000))
    (hps : SlP w f.params pv) (hb : SlS w false none f.body bv) (hpl : f.params.length ≤ 100000000) (hbs : f.body.sz ≤ 99999990) (har : arS f.body = true) :
    Calls Tryz.prog 65 #[.agg #[.map (some vb), .map (some cb)], .agg #[.int .i64 t, .string f.name, pv, .int .u8 f.type, .bool f.opn, bv]] w fun e w' =>
      (∃ s, e = .returned (.tuple #[.int .i64 s, .int .i64 (chF vs cs f)])) ∧ Below w.heap.size w w' := by
  have hBV := hid hb
  obtain ⟨ba, bc, rfl⟩ := hb.shape'
  obtain ⟨pa, pb, po, pc, rfl, hpa, hpi⟩ := hps
  obtain ⟨f0, f1, ps, f3, f4, body⟩ := f
  simp only [] at hpa hpi hpl hbs har hBV ⊢
  obtain ⟨len, hlen⟩ : ∃ m, m = ps.length := ⟨_, rfl⟩
  rw [← hlen] at hpa hpl ⊢
  have HL := hid hlen
  have HP := hid hpi
  have NM := hid hnm
  have HS := hid (And.intro hbs har)
  obtain ⟨R, hR⟩ : ∃ r, r = chF vs cs ⟨f0, f1, ps, f3, f4, body⟩ := ⟨_, rfl⟩
  rw [← hR]
  have HR := hid hR
  obtain ⟨box, hbox⟩ : ∃ b : Array Value, b = #[.int .i64 t, .string f1, .slice pa len pc, .int .u8 f3, .bool f4, .slice ba body.len bc] := ⟨_, rfl⟩
  have hF0 := hid (show F65 w vs cs vb cb w.heap.size box f3 [] (((((w.alloc (.cells #[.map (some vb), .map (some cb)] 91)).alloc (.cells box 43)).alloc (.cells #[.map (some vb), .map (some cb), .slice none 0 0, .int .u8 f3, .int .i64 0, .int .i64 0, .int .i64 0] 193)).alloc (.cells #[.pointer (some ⟨w.heap.size + 1 + 1, 0, none⟩)] 189)).alloc (.map #[] 0)) from
    ⟨((((Bx.new w _ _).al _).al _).al _).al _, by simpa using (((Bx.new (w.alloc (.cells #[.map (some vb), .map (some cb)] 91)) box 43).al _).al _).al _,
     by simpa using ((Bx.new ((w.alloc (.cells #[.map (some vb), .map (some cb)] 91)).alloc (.cells box 43)) _ 193).al _).al _, by simpa using (Bx.new (((w.alloc (.cells #[.map (some vb), .map (some cb)] 91)).alloc (.cells box 43)).alloc (.cells #[.map (some vb), .map (some cb), .slice none 0 0, .int .u8 f3, .int .i64 0, .int .i64 0, .int .i64 0] 193)) _ 189).al _,
     by simpa [scv, Nat.add_assoc] using Mp.new ((((w.alloc (.cells #[.map (some vb), .map (some cb)] 91)).alloc (.cells box 43)).alloc (.cells #[.map (some vb), .map (some cb), .slice none 0 0, .int .u8 f3, .int .i64 0, .int .i64 0, .int .i64 0] 193)).alloc (.cells #[.pointer (some ⟨w.heap.size + 1 + 1, 0, none⟩)] 189)), by (repeat (first | exact Below.refl _ _ | refine Below.drew ?_ | refine Below.alloc ?_ (by simp <;> omega) _))⟩)
  rw [hbox] at hF0
  have HB := hid hbox
  clear hlen hpi hnm hbs har hR hb hbox
  have hmm : ∀ w : World, (Instr.makeMap 194 none).run Tryz.prog w = .ok (.map (some w.heap.size)) (w.alloc (.map #[] 0)) := fun w => run_makeMap 194 w
  go_enter Tryz.func65, Tryz.ntmps65
  go_wp2_with fail
  go_loopw [22] (fun i wr => ∃ (k : Nat) (sc : Scope), i = .int .i64 k ∧ k ≤ len ∧ addPars vs cs ps [] = addPars vs cs (ps.drop k) sc ∧ F65 w vs cs vb cb w.heap.size #[.int .i64 t, .string f1, .slice pa len pc, .int .u8 f3, .bool f4, .slice ba body.len bc] f3 sc wr) (fun i _ => len - (intOf i).toNat)
  case atStart => exact ⟨0, [], rfl, Nat.zero_le _, rfl, hF0.out⟩
  case round =>
    clear hF0
    obtain ⟨k, sc, rfl, hk, hadd, hF⟩ := hrel
    have hA := hid hadd
    have hFF := hid hF
    clear hadd
    have p2 := hF.b1.cell 2
    simp at p2
    by_cases hkl : k = len
    · subst k
      have hok := hid (show addPars vs cs ps [] = .ok sc by rw [hA.out, HL.out, List.drop_length]; rfl)
      have p5 := hF.b1.cell 5
      simp at p5
      have hvl := varsS_le body
      have hbz := HS.out.1
      have hwr : IntKind.i64.wrap ((len : Int) + (varsS body : Int)) = (len : Int) + (varsS body : Int) := IntWalk.i64_in _ (by omega)
      clear hF
      go_wp2_with fail
      refine wp_region_held_drew (S := (Below wr.heap.size wr)) (by kernel_rfl) (Below.refl _ _).drew (fun hHeld => ?_)
      refine tk 0 ?_
      refine tk 1 ?_ (hy := by intro w' hSw; have q1 := cell_on p2 hSw; go_simp; (try with_reducible rfl))
      refine tk 2 ?_
      refine tk 3 ?_
      refine tk 4 ?_ (hy := by intro w' hSw; have q1 := cell_on p5 hSw; go_simp; (try with_reducible rfl))
      refine tr 5 fun K hK => ?_
      go_simp
      go_at_call 108
      refine (vars108 (body.sz + 1) body _ wr.drew (by omega) (by omega) (hBV.out.mono hFF.out.below.drew)).mono ?_
      rintro e w2 ⟨rfl, hb2⟩
      have hk := ((Below.refl wr.heap.size wr).drew).trans hb2
      clear hHeld
      go_wp2_with fail
      refine hK.out _ _ hk (fun hHeld => ?_)
      clear hK K hk
      try simp only [tpa, tpb, tpc, tpd, tpe]
      refine tk 6 ?_ (hy := by intro w' hSw; have q1 := hwr; go_simp; (try with_reducible rfl))
      refine tk 7 ?_
      refine td ?_
      have hF3 := hid (hFF.out.on hHeld)
      clear hHeld hwr
      by_cases h128 : (128 : Int) < (len : Int) + (varsS body : Int)
      · have hh := hid (show R = 296 by rw [HR.out]; simp only [chF]; rw [hok.out]; simp only []; rw [if_pos (by have := HL.out; omega)])
        go_wp2_with fail
        go_ret2
        rw [hh.out]
        exact ⟨⟨_, rfl⟩, hF3.out.below⟩
      · have c3 := hF3.out.b3.cell 0
        have c2 := (hF3.out.b2.al (.cells #[.map (some (w.heap.size + 1 + 1 + 1 + 1))] 194)).cell 2
        simp at c3 c2
        have f2 := (hF3.out.b2.al (.cells #[.map (some (w.heap.size + 1 + 1 + 1 + 1))] 194)).free 2
        have hmf : ∀ (fn : Fn) (first cap : Array Value) (w : World), (Instr.makeFunc fn first cap).run Tryz.prog w = .ok (.func fn first cap) w := fun _ _ _ _ => rfl
        have CK := hid (hF3.out.start NM.out)
        have hgs := grown_setCell (w2.alloc (.cells #[.map (some (w.heap.size + 1 + 1 + 1 + 1))] 194)) ⟨w.heap.size + 1 + 1, 2, none⟩ (.slice (some ⟨w2.heap.size, 0, none⟩) 1 1)
        have B1 := hid ((hF3.out.b1.al (.cells #[.map (some (w.heap.size + 1 + 1 + 1 + 1))] 194)).on hgs (by simp))
        have B3 := hid ((hF3.out.b3.al (.cells #[.map (some (w.heap.size + 1 + 1 + 1 + 1))] 194)).on hgs (by simp))
        have CC := hid CK.out.below
        clear hgs
        go_wp2_with fail
        generalize ((w2.alloc (.cells #[.map (some (w.heap.size + 1 + 1 + 1 + 1))] 194)).setCell ⟨w.heap.size + 1 + 1, 2, none⟩ (.slice (some ⟨w2.heap.size, 0, none⟩) 1 1)) = W4 at *
        have hE := (Below.refl W4.heap.size W4).alloc (Nat.le_refl _) (.cells #[.int .i64 0] 32)
        have hCE := CK.out.on hE
        have B1e := B1.out.al (.cells #[.int .i64 0] 32)
        have B3e := B3.out.al (.cells #[.int .i64 0] 32)
        have BEe := hid (Bx.new W4 #[.int .i64 0] 32)
        have hT := B3e.cell 0
        have hFc := B1e.cell 5
        simp at hT hFc
        have B1h := hid B1e
        have B3h := hid B3e
        clear B1e B3e
        have cz := hid (closure110 (w.heap.size + 1 + 1 + 1) (w.heap.size + 1) (w.heap.size + 1 + 1) (.slice ba body.len bc) (W4.alloc (.cells #[.int .i64 0] 32)) (Post w vs cs f3 vb cb (w.heap.size + 1 + 1) [sc] 0 (W4.alloc (.cells #[.int .i64 0] 32)) (unitE (chS vs cs f3 body [sc] [] 0))) hT hFc ⟨body, hBV.out.mono hCE.below⟩ (hid (cl_all w vs cs f3 vb cb (w.heap.size + 1 + 1) hp (body.sz + 1) body _ [sc] 0 _ _ _ _ _ _ (Nat.lt_succ_self _) (by have := HS.out.1; simp; omega) (by have := HS.out.1; omega) HS.out.2 hBV.out hCE)) (hid (fun e w9 hP => by obtain ⟨_, h2⟩ := hP; split at h2; exact .inr ⟨_, h2.1⟩; exact .inl h2.1)))
        have cy := hid (caught109 ⟨w.heap.size + 1 + 1 + 1, 0, none⟩ ⟨w.heap.size + 1, 0, none⟩ W4 _ cz (hid (fun e w9 hP => by obtain ⟨h1, h2⟩ := hP; refine ⟨h1.kp _ _ 32 (by decide) (by decide) BEe.out, ?_⟩; split at h2; exact .inr ⟨_, h2.1⟩; exact .inl h2.1)))
        clear hT hFc cz hE hCE
        refine cy.out.mono ?_
        clear cy
        rintro e w8 ⟨e0, w7, ⟨hk1, hk2⟩, hway⟩
        have K7 := hid (hk1.kp _ _ 43 (by decide) (by decide) B1h.out)
        have K7b := hid (hk1.kp _ _ 189 (by decide) (by decide) B3h.out)
        have K7e := hid (hk1.kp _ _ 32 (by decide) (by decide) BEe.out)
        have B7 := hid ((CC.out.alloc (by have := CC.out.size; omega) (.cells #[.int .i64 0] 32)).trans hk1.below)
        have hWs : w.heap.size ≤ W4.heap.size := CC.out.size
        have hgs7 := hid (fun v => grown_setCell w7 ⟨W4.heap.size, 0, none⟩ v)
        have hWn : w.heap.size + 1 + 1 + 1 < W4.heap.size := B3.out.lt
        cases hq : chS vs cs f3 body [sc] [] 0 with
        | error er =>
          rw [hq] at hk2
          obtain ⟨rfl, st2, hst⟩ := hk2
          have her : 290 ≤ er := chS_hi _ _ _ _ _ _ _ _ hq
          rcases hway with ⟨h1, _⟩ | ⟨er2, h1, rfl, rfl⟩
          · cases h1
          obtain rfl : er = er2 := by simp [flt] at h1; exact h1
          have hh := hid (show R = er by rw [HR.out]; simp only [chF]; rw [hok.out]; simp only []; rw [if_neg (by have := HL.out; omega), hq])
          have q3 := ((K7b.out.on (hgs7.out (.int .i64 er)) (by simp; omega)).al (.cells #[.int .i64 er] 238)).cell 0
          simp at q3
          have q4 := cell_on (show (w7.setCell ⟨W4.heap.size, 0, none⟩ (.int .i64 er)).cell? ⟨w.heap.size + 1 + 1, 4, none⟩ = some (.int .i64 st2) by rw [World.cell?_of_block (w := w7) ((hgs7.out (.int .i64 er)).block _ (World.block_lt_of_cell? w7 _ hst) (by simp; omega))]; exact hst) ((Below.refl _ _).alloc (Nat.le_refl _) (.cells #[.int .i64 er] 238))
          have B8 := hid ((B7.out.setCell (by simp; omega) (.int .i64 er) (p := ⟨W4.heap.size, 0, none⟩)).alloc (by have := B7.out.size; simp [World.setCell]; omega) (.cells #[.int .i64 er] 238))
          have her2 : (er == 0) = false := by simp; omega
          have her3 : ¬ er = 0 := by omega
          clear hk1 hst h1 B1 B3
          go_wp2_with fail
          go_ret2
          rw [hh.out]
          exact ⟨⟨_, rfl⟩, B8.out⟩
        | ok u =>
          rw [hq] at hk2
          obtain ⟨rfl, -⟩ := hk2
          rcases hway with ⟨h1, rfl, rfl⟩ | ⟨er2, h1, _⟩
          rotate_left
          · cases h1
          have q5 := (K7.out.on (hgs7.out (.int .i64 0)) (by simp; omega)).cell 5
          simp at q5
          have B8 := hid (B7.out.setCell (by simp; omega) (.int .i64 0) (p := ⟨W4.heap.size, 0, none⟩))
          have cr := hid (returns112 (body.sz + 1) body (.slice ba body.len bc) (w7.setCell ⟨W4.heap.size, 0, none⟩ (.int .i64 0)) (Nat.lt_succ_self _) (by have := HS.out.1; omega) (hBV.out.mono B8.out))
          clear hk1 h1 B1 B3
          cases hr : retS body with
          | true =>
            have hh := hid (show R = 0 by rw [HR.out]; simp only [chF]; rw [hok.out]; simp only []; rw [if_neg (by have := HL.out; omega), hq]; simp [hr])
            rw [hr] at cr
            go_wp2_with fail
            refine cr.out.mono ?_
            rintro e w9 ⟨rfl, hb9⟩
            have B9 := hid (B8.out.trans (hb9.mono B8.out.size))
            clear hb9 cr
            go_wp2_with fail
            go_ret2
            rw [hh.out]
            exact ⟨⟨_, rfl⟩, B9.out⟩
          | false =>
            have hh := hid (show R = 295 by rw [HR.out]; simp only [chF]; rw [hok.out]; simp only []; rw [if_neg (by have := HL.out; omega), hq]; simp [hr])
            rw [hr] at cr
            go_wp2_with fail
            refine cr.out.mono ?_
            rintro e w9 ⟨rfl, hb9⟩
            have B9 := hid (B8.out.trans (hb9.mono B8.out.size))
            clear hb9 cr
            go_wp2_with fail
            go_ret2
            rw [hh.out]
            exact ⟨⟨_, rfl⟩, B9.out⟩
    · have hkk : k < len := by omega
      have hkp : k < ps.length := by have := HL.out; omega
      have hpa2 : pa = some ⟨pb, po, none⟩ := by rcases hpa with q | q; (· omega); (· exact q)
      subst hpa2
      obtain ⟨y0, y1⟩ := HP.out k hkp
      have hdr := hid (show ps.drop k = ps[k] :: ps.drop (k + 1) from List.drop_eq_getElem_cons hkp)
      generalize ps[k] = pk at y0 y1 hdr
      obtain ⟨nm, ty⟩ := pk
      simp only [] at y0 y1
      have hbel := hF.below
      have x0 := cell_on y0 hbel
      have x1 := cell_on y1 hbel
      have hF2 := hid (hF.on ((Below.refl wr.heap.size wr).alloc (Nat.le_refl _) (.cells #[.string nm, .int .u8 ty] 46)))
      have hlk := hF2.out.mp.lookup under194 under9 nm (.int .u8 0) (zero40 _) true
      rw [scv, getM_map (Value.int .u8)] at hlk
      clear hF y0 y1 hbel
      cases hg : getM nm sc with
      | some tt =>
        have hh := hid (show R = 290 by rw [HR.out]; simp only [chF]; rw [hA.out, hdr.out]; simp [addPars, hg])
        rw [hg] at hlk
        simp only [Option.map_some, Option.getD_some, Option.isSome_some, if_true] at hlk
        go_wp2_with fail
        go_ret2
        rw [hh.out]
        exact ⟨⟨_, rfl⟩, hF2.out.below⟩
      | none =>
        rw [hg] at hlk
        simp only [Option.map_none, Option.getD_none, Option.isSome_none, if_true] at hlk
        have cx := hid (has73 nm vs cs vb cb (wr.alloc (.cells #[.string nm, .int .u8 ty] 46)) (NM.out.mono hF2.out.below))
        have b0 := hF2.out.b0.cell 0
        have b0b := hF2.out.b0.cell 1
        simp at b0 b0b
        cases hha : hasN vs cs nm with
        | true =>
          have hh := hid (show R = 290 by rw [HR.out]; simp only [chF]; rw [hA.out, hdr.out]; simp [addPars, hha])
          rw [hha] at cx
          go_wp2_with fail
          refine cx.out.mono ?_
          rintro e w2 ⟨rfl, hb2⟩
          have hF3 := hid (hF2.out.on hb2)
          clear hb2 cx
          go_wp2_with fail
          go_ret2
          rw [hh.out]
          exact ⟨⟨_, rfl⟩, hF3.out.below⟩
        | false =>
          rw [hha] at cx
          go_wp2_with fail
          refine cx.out.mono ?_
          rintro e w2 ⟨rfl, hb2⟩
          have hF3 := hid (hF2.out.on hb2)
          have x0b := cell_on (show (wr.alloc (.cells #[.string nm, .int .u8 ty] 46)).cell? ⟨wr.heap.size, 0, none⟩ = some (.string nm) by simp [(Bx.new wr #[.string nm, .int .u8 ty] 46).cell 0]) hb2
          have x1b := cell_on (show (wr.alloc (.cells #[.string nm, .int .u8 ty] 46)).cell? ⟨wr.heap.size, 1, none⟩ = some (.int .u8 ty) by simp [(Bx.new wr #[.string nm, .int .u8 ty] 46).cell 1]) hb2
          clear hb2 cx
          obtain ⟨w3, hrun, hg3, hsz3, hmp⟩ := hF3.out.mp.update under194 under9 nm (.int .u8 ty)
          have hF4 := hid (hF3.out.put hg3 (sc' := putM nm ty sc) (by rw [scv, ← putM_map (Value.int .u8)]; exact hmp))
          clear hg3 hsz3 hmp
          go_wp2_with fail
          exact ⟨⟨k + 1, putM nm ty sc, by go_num, by omega, by rw [hA.out, hdr.out]; simp [addPars, hg, hha], hF4.out⟩, by simp only [intOf]; omega⟩
end
section
open Go.Shelf
def wordsL : List GH → Int
 | [] => 0
 | g :: r => (if g.len < 1 then 1 else g.len) + wordsL r
theorem words64 (u : UT) (v : Value) (w : World) (ok : u.gs.length ≤ 100000000) (hl : Hid (∀ x ∈ u.gs, 0 ≤ x.len ∧ x.len < 4294967296)) (hv : UIn w false none u v) :
  Calls Tryz.prog 64 #[v] w fun e w' => e = .returned (.int .i64 (wordsL u.gs)) ∧ Below w.heap.size w w' := by
 obtain ⟨vg, vh, vf, rfl, hg, hh, hf⟩ := hv
 obtain ⟨ga, gb, go, gc, rfl, hga, hgi⟩ := SlR.open hg
 obtain ⟨ha, hbk, ho, hc, rfl, -, -⟩ := SlR.open hh
 obtain ⟨fa, fb, fo, fc, rfl, -, -⟩ := SlR.open hf
 obtain ⟨gs, hs, fs⟩ := u
 simp only [] at *
 have hG := hid hgi
 obtain ⟨len, hlen⟩ : ∃ m, m = gs.length := ⟨_, rfl⟩
 rw [← hlen] at hga ok ⊢
 have HL := hid hlen
 clear hg hh hf hgi hlen
 have hX0 := hid (SB1.new (Below.refl w.heap.size w) #[.slice ga len gc, .slice ha hs.length hc, .slice fa fs.length fc] 26)
 go_enter Tryz.func64, Tryz.ntmps64
 go_wp2_with fail
 go_loopw [3, 9] (fun z i wr => ∃ (k : Nat) (s : Int), z = .int .i64 s ∧ k ≤ len ∧ i = .int .i64 k ∧ wordsL gs = s + wordsL (gs.drop k) ∧ 0 ≤ s ∧ s ≤ k * 4294967296 ∧ SB1 w w.heap.size #[.slice ga len gc, .slice ha hs.length hc, .slice fa fs.length fc] 26 wr) (fun _ i _ => len - (intOf i).toNat)
 case atStart => exact ⟨0, 0, rfl, Nat.zero_le _, rfl, by simp, by omega, by omega, hX0.out⟩
 case round =>
  clear hX0
  obtain ⟨k, s, rfl, hk, rfl, hw, hs0, hs1, hX⟩ := hrel
  have hX1 := hid hX
  have hb := hid hX.below
  have hW := hid hw
  clear hX hw
  by_cases hlt : k < len
  ·have hlt' : k < gs.length := by have := HL.out; omega
   obtain ⟨⟨t, y0, _⟩, y1, y2, y3, y4⟩ := hG.out k hlt'
   have hln := hl.out _ (List.getElem_mem hlt')
   have hdr := hid (show gs.drop k = gs[k] :: gs.drop (k + 1) from List.drop_eq_getElem_cons hlt')
   have x0 := cell_on y0 hb.out
   have x1 := cell_on y1 hb.out
   have x2 := cell_on y2 hb.out
   have x3 := cell_on y3 hb.out
   have x4 := cell_on y4 hb.out
   have hka2 : ga = some ⟨gb, go, none⟩ := by rcases hga with q | q; (· omega); (· exact q)
   subst hka2
   generalize gs[k] = a at x1 x2 x3 x4 hln hdr
   obtain ⟨at0, nm, ty, ln, wd⟩ := a
   simp only [] at x1 x2 x3 x4 hln
   have hX2 := hid (hX1.out.on ((Below.refl wr.heap.size wr).alloc (Nat.le_refl _) (.cells #[.int .i64 t, .string nm, .int .u8 ty, .int .u32 ln, .int .u32 wd] 105)))
   clear hga y0 y1 y2 y3 y4
   obtain ⟨m, hm⟩ : ∃ m, m = (if ln < 1 then 1 else ln) := ⟨_, rfl⟩
   have hm1 : 0 ≤ m ∧ m < 4294967296 := by rw [hm]; split <;> omega
   have hM := hid hm
   have hwr : wrap64 (s + m) = s + m := by simp only [wrap64]; omega
   have hE := hid (show wordsL gs = (s + m) + wordsL (gs.drop (k + 1)) by rw [hW.out, hdr.out]; simp only [wordsL]; rw [← hM.out]; omega)
   by_cases hl1 : ln < 1
   ·have hm2 : m = 1 := by rw [hm, if_pos hl1]
    subst hm2
    clear hm
    go_wp2_with fail
    exact ⟨⟨k + 1, s + 1, by simp [hwr], by omega, by go_num, hE.out, by omega, by omega, hX2.out⟩, by simp only [intOf]; omega⟩
   ·have hm2 : m = ln := by rw [hm, if_neg hl1]
    subst hm2
    clear hm
    go_wp2_with fail
    exact ⟨⟨k + 1, s + m, by simp [hwr], by omega, by go_num, hE.out, by omega, by omega, hX2.out⟩, by simp only [intOf]; omega⟩
  ·have hk2 : k = len := by omega
   subst k
   have hE := hid (show wordsL gs = s by rw [hW.out, HL.out, List.drop_length]; simp [wordsL])
   go_wp2_with fail
   go_ret
   rw [hE.out]
   exact ⟨rfl, hX1.out.below⟩
/-! ### names -/
abbrev VS := List (ByteArray × (Int × Int))
abbrev CSg := List (ByteArray × Sig)
def gatG : List GH → VS → Option VS
 | [], vs => some vs
 | g :: r, vs => if hasN vs [] g.name then none else gatG r (putM g.name (g.type, g.len) vs)
def gatH : List HH → Nat → VS → CSg → Option CSg
 | [], _, _, cs => some cs
 | h :: r, i, vs, cs => if hasN vs cs h.name then none else gatH r (i + 1) vs (putM h.name ⟨h.params, h.type, i, -1⟩ cs)
def gatF : List FH → Nat → VS → CSg → Option CSg
 | [], _, _, cs => some cs
 | f :: r, i, vs, cs => if hasN vs cs f.name then none else gatF r (i + 1) vs (putM f.name ⟨f.params, f.type, -1, i⟩ cs)
def gatU (u : UT) : Option (VS × CSg) :=
 match gatG u.gs [] with
 | none => none
 | some vs => match gatH u.hs 0 vs [] with
  | none => none
  | some c1 => match gatF u.fs 0 vs c1 with
   | none => none
   | some cs => some (vs, cs)
structure G40 (w : World) (n : Nat) (box : Array Value) (vs : VS) (cs : CSg) (wr : World) : Prop where
 b1 : Bx wr n box 26
 b2 : Bx wr (n + 1) #[.map none, .map none] 91
 mv : Mp wr (n + 1 + 1) (vs.map fun x => (x.1, varv x.2))
 mc : ∃ l, Mp wr (n + 1 + 1 + 1) l ∧ CalR w cs l
 b4 : Bx wr (n + 1 + 1 + 1 + 1) #[.map (some (n + 1 + 1)), .map (some (n + 1 + 1 + 1))] 91
 below : Below n w wr
 size : n = w.heap.size
section
variable {w wr w' : World} {n : Nat} {box : Array Value} {vs : VS} {cs : CSg}
theorem G40.on (h : G40 w n box vs cs wr) (hb : Below wr.heap.size wr w') : G40 w n box vs cs w' :=
 ⟨h.b1.on (grown_of_below hb) (by simp), h.b2.on (grown_of_below hb) (by simp), h.mv.mono hb, by obtain ⟨l, h1, h2⟩ := h.mc; exact ⟨l, h1.mono hb, h2⟩, h.b4.on (grown_of_below hb) (by simp), h.below.trans (hb.mono (by have := h.b1.lt; omega)), h.size⟩
theorem G40.nm (h : G40 w n box vs cs wr) : NmR wr vs cs (n + 1 + 1) (n + 1 + 1 + 1) := by
 obtain ⟨l, h1, h2⟩ := h.mc
 exact ⟨h.mv, l, h1, h2.mono (h.size ▸ h.below)⟩
theorem G40.putV {vs' : VS} (h : G40 w n box vs cs wr) (hg : wr.grownBy w' (some (n + 1 + 1))) (hm : Mp w' (n + 1 + 1) (vs'.map fun x => (x.1, varv x.2))) : G40 w n box vs' cs w' :=
 ⟨h.b1.on hg (by simp <;> omega), h.b2.on hg (by simp <;> omega), hm, by obtain ⟨l, h1, h2⟩ := h.mc; exact ⟨l, h1.on hg (by simp <;> omega), h2⟩, h.b4.on hg (by simp <;> omega), h.below.grown hg (by have := h.b1.lt; omega) (fun k e => by cases e; omega), h.size⟩
theorem G40.putC {cs' : CSg} {l : List (ByteArray × Value)} (h : G40 w n box vs cs wr) (hg : wr.grownBy w' (some (n + 1 + 1 + 1))) (hm : Mp w' (n + 1 + 1 + 1) l) (hc : CalR w cs' l) : G40 w n box vs cs' w' :=
 ⟨h.b1.on hg (by simp <;> omega), h.b2.on hg (by simp <;> omega), h.mv.on hg (by simp <;> omega), ⟨l, hm, hc⟩, h.b4.on hg (by simp <;> omega), h.below.grown hg (by have := h.b1.lt; omega) (fun k e => by cases e; omega), h.size⟩
theorem G40.start (w : World) (box : Array Value) : G40 w w.heap.size box [] [] (((((w.alloc (.cells box 26)).alloc (.cells #[.map none, .map none] 91)).alloc (.map #[] 0)).alloc (.map #[] 0)).alloc (.cells #[.map (some (w.heap.size + 1 + 1)), .map (some (w.heap.size + 1 + 1 + 1))] 91)) :=
  ⟨((((Bx.new w box 26).al _).al _).al _).al _, by simpa using (((Bx.new (w.alloc (.cells box 26)) #[.map none, .map none] 91).al _).al _).al _,
   by simpa using ((Mp.new ((w.alloc (.cells box 26)).alloc (.cells #[.map none, .map none] 91))).al _).al _,
   ⟨[], by simpa using (Mp.new (((w.alloc (.cells box 26)).alloc (.cells #[.map none, .map none] 91)).alloc (.map #[] 0))).al _, .nil⟩,
   by simpa using Bx.new ((((w.alloc (.cells box 26)).alloc (.cells #[.map none, .map none] 91)).alloc (.map #[] 0)).alloc (.map #[] 0)) _ 91, by (repeat (first | exact Below.refl _ _ | refine Below.drew ?_ | refine Below.alloc ?_ (by simp <;> omega) _)), rfl⟩
end
def P40 (w : World) (u : UT) (e : Ending) (w' : World) : Prop :=
 ∃ v0 b, e = .returned (.tuple #[v0, .bool b]) ∧ Below w.heap.size w w' ∧ match gatU u with
  | none => b = false ∧ v0 = .agg #[.map (some (w.heap.size + 1 + 1)), .map (some (w.heap.size + 1 + 1 + 1))]
  | some (vs, cs) => b = true ∧ v0 = .agg #[.map (some (w.heap.size + 1 + 1)), .map (some (w.heap.size + 1 + 1 + 1))] ∧ NmR w' vs cs (w.heap.size + 1 + 1) (w.heap.size + 1 + 1 + 1)
theorem P40.no {w w' : World} {u : UT} (h : gatU u = none) (hb : Below w.heap.size w w') : P40 w u (.returned (.tuple #[.agg #[.map (some (w.heap.size + 1 + 1)), .map (some (w.heap.size + 1 + 1 + 1))], .bool false])) w' := by
 unfold P40
 rw [h]
 exact ⟨_, _, rfl, hb, rfl, rfl⟩
theorem P40.yes {w w' : World} {u : UT} {vs : VS} {cs : CSg} (h : gatU u = some (vs, cs)) (hb : Below w.heap.size w w') (hn : NmR w' vs cs (w.heap.size + 1 + 1) (w.heap.size + 1 + 1 + 1)) : P40 w u (.returned (.tuple #[.agg #[.map (some (w.heap.size + 1 + 1)), .map (some (w.heap.size + 1 + 1 + 1))], .bool true])) w' := by
 unfold P40
 rw [h]
 exact ⟨_, _, rfl, hb, rfl, rfl, hn⟩
theorem res40 (w : World) (q : Nat) (a b : Value) (hb : Bx w q #[a, b] 91) : (loadVar 91 ⟨q, 0, none⟩).run Tryz.prog w = .ok (.agg #[a, b]) w :=
 run_loadVar_row (P := Tryz.prog) w q 91 91 _ (0, 0) _ hb Tryz.underlying91 rfl (by kernel_rfl)
theorem grown2 (w : World) (q : Nat) (a b : Value) : w.grownBy ((w.setCell ⟨q, 0, none⟩ a).setCell ⟨q, 1, none⟩ b) (some q) :=
 have h := ((Below.refl 0 w).setCell (p := ⟨q, 0, none⟩) (Nat.zero_le _) a).setCell (p := ⟨q, 1, none⟩) (Nat.zero_le _) b
 ⟨h.os, h.tape, h.output, h.size, fun k hk hn => by
  have hq : k ≠ q := fun e => hn (by rw [e])
  rw [Below.heap_setCell _ ⟨q, 1, none⟩ _ k hq, Below.heap_setCell _ ⟨q, 0, none⟩ _ k hq]⟩
theorem gathered40 (u : UT) (v : Value) (w : World) (ok : u.Ok) (hv : UIn w false none u v) : Calls Tryz.prog 40 #[v] w (P40 w u) := by
 obtain ⟨vg, vh, vf, rfl, hg, hh, hf⟩ := hv
 obtain ⟨ga, gb, go, gc, rfl, hga, hgi⟩ := SlR.open hg
 obtain ⟨ha, hbk, ho, hc, rfl, hha, hhi⟩ := SlR.open hh
 obtain ⟨fa, fb, fo, fc, rfl, hfa, hfi⟩ := SlR.open hf
 have hG := hid hgi
 have hH := hid hhi
 have hF := hid hfi
 have g1 := ok.g
 have g2 := ok.h
 have g3 := ok.f
 obtain ⟨gs, hs, fs⟩ := u
 simp only [] at *
 obtain ⟨mg, hmg⟩ : ∃ m, m = gs.length := ⟨_, rfl⟩
 obtain ⟨mh, hmh⟩ : ∃ m, m = hs.length := ⟨_, rfl⟩
 obtain ⟨mf, hmf⟩ : ∃ m, m = fs.length := ⟨_, rfl⟩
 rw [← hmg] at hga g1 ⊢
 rw [← hmh] at hha g2 ⊢
 rw [← hmf] at hfa g3 ⊢
 have hMG := hid hmg
 have hMH := hid hmh
 have hMF := hid hmf
 clear hg hh hf hgi hhi hfi ok hmg hmh hmf
 have hX0 := hid (G40.start w #[.slice ga mg gc, .slice ha mh hc, .slice fa mf fc])
 have hm8 : ∀ w : World, (Instr.makeMap 88 none).run Tryz.prog w = .ok (.map (some w.heap.size)) (w.alloc (.map #[] 0)) := fun w => run_makeMap 88 w
 have hm9 : ∀ w : World, (Instr.makeMap 89 none).run Tryz.prog w = .ok (.map (some w.heap.size)) (w.alloc (.map #[] 0)) := fun w => run_makeMap 89 w
 go_enter Tryz.func40, Tryz.ntmps40
 go_wp2_with fail
 clear hm8 hm9
 go_loopw [17] (fun i wr => ∃ (k : Nat) (vs : VS), k ≤ mg ∧ i = .int .i64 k ∧ gatG gs [] = gatG (gs.drop k) vs ∧ G40 w w.heap.size #[.slice ga mg gc, .slice ha mh hc, .slice fa mf fc] vs [] wr) (fun i _ => mg - (intOf i).toNat)
 case atStart => exact ⟨0, [], Nat.zero_le _, rfl, rfl, hX0.out⟩
 case round =>
  clear hX0
  obtain ⟨k, vs, hk, rfl, hgat, hX⟩ := hrel
  have hA := hid hgat
  have hX1 := hid hX
  have hb := hid hX.below
  have p0 := hX1.out.b1.cell 0
  have p1 := hX1.out.b1.cell 1
  have p2 := hX1.out.b1.cell 2
  simp at p0 p1 p2
  clear hgat hX
  by_cases hlt : k < mg
  ·have hlt' : k < gs.length := by have := hMG.out; omega
   obtain ⟨⟨t, y0, _⟩, y1, y2, y3, y4⟩ := hG.out k hlt'
   have hdr := hid (show gs.drop k = gs[k] :: gs.drop (k + 1) from List.drop_eq_getElem_cons hlt')
   have x0 := cell_on y0 hb.out
   have x1 := cell_on y1 hb.out
   have x2 := cell_on y2 hb.out
   have x3 := cell_on y3 hb.out
   have x4 := cell_on y4 hb.out
   have hka2 : ga = some ⟨gb, go, none⟩ := by rcases hga with q | q; (· omega); (· exact q)
   subst hka2
   generalize gs[k] = a at x1 x2 x3 x4 hdr
   obtain ⟨at0, nm, ty, ln, wd⟩ := a
   simp only [] at x1 x2 x3 x4
   clear hga y0 y1 y2 y3 y4 p0 p1 p2
   have hX2 := hid (hX1.out.on ((Below.refl wr.heap.size wr).alloc (Nat.le_refl _) (.cells #[.int .i64 t, .string nm, .int .u8 ty, .int .u32 ln, .int .u32 wd] 105)))
   have q0 := hX2.out.b4.cell 0
   have q1 := hX2.out.b4.cell 1
   simp at q0 q1
   have cx := hid (has73 nm _ _ _ _ _ hX2.out.nm)
   cases hha : hasN vs [] nm with
   | true =>
    have hN := hid (show gatU ⟨gs, hs, fs⟩ = none by unfold gatU; rw [hA.out, hdr.out]; simp [gatG, hha])
    rw [hha] at cx
    go_wp2_with fail
    refine cx.out.mono ?_
    rintro e w2 ⟨rfl, hb2⟩
    have hX3 := hid (hX2.out.on hb2)
    clear hb2 cx q0 q1
    have q0 := hX3.out.b4.cell 0
    have q1 := hX3.out.b4.cell 1
    have z0 := hX3.out.b2.cell 0
    have z1 := hX3.out.b2.cell 1
    have f0 := hX3.out.b2.free 0
    have f1 := hX3.out.b2.free 1
    simp at q0 q1 z0 z1
    have hST := hid (hX3.out.b2.set 0 (.map (some (w.heap.size + 1 + 1))) |>.set 1 (.map (some (w.heap.size + 1 + 1 + 1))))
    simp at hST
    go_wp2_with fail
    refine bodyPost_ret (v := .tuple #[.agg #[.map (some (w.heap.size + 1 + 1)), .map (some (w.heap.size + 1 + 1 + 1))], .bool false]) ?_ rfl ?_
    ·rw [results_cell_tmp rfl]
     have hload := res40 _ _ _ _ hST.out
     simp [asAddr, Result.andThen, hload]
    ·exact P40.no hN.out (hX3.out.below.grown (grown2 _ _ _ _) hX3.out.below.size (fun k e => by cases e; omega))
   | false =>
    rw [hha] at cx
    go_wp2_with fail
    refine cx.out.mono ?_
    rintro e w2 ⟨rfl, hb2⟩
    have hX3 := hid (hX2.out.on hb2)
    have n1 := cell_on (show (wr.alloc (.cells #[.int .i64 t, .string nm, .int .u8 ty, .int .u32 ln, .int .u32 wd] 105)).cell? ⟨wr.heap.size, 1, none⟩ = some (.string nm) by simp [(Bx.new wr #[.int .i64 t, .string nm, .int .u8 ty, .int .u32 ln, .int .u32 wd] 105).cell 1]) hb2
    have n2 := cell_on (show (wr.alloc (.cells #[.int .i64 t, .string nm, .int .u8 ty, .int .u32 ln, .int .u32 wd] 105)).cell? ⟨wr.heap.size, 2, none⟩ = some (.int .u8 ty) by simp [(Bx.new wr #[.int .i64 t, .string nm, .int .u8 ty, .int .u32 ln, .int .u32 wd] 105).cell 2]) hb2
    have n3 := cell_on (show (wr.alloc (.cells #[.int .i64 t, .string nm, .int .u8 ty, .int .u32 ln, .int .u32 wd] 105)).cell? ⟨wr.heap.size, 3, none⟩ = some (.int .u32 ln) by simp [(Bx.new wr #[.int .i64 t, .string nm, .int .u8 ty, .int .u32 ln, .int .u32 wd] 105).cell 3]) hb2
    clear hb2 cx q0 q1
    have q0 := hX3.out.b4.cell 0
    simp at q0
    obtain ⟨w3, hrun, hg3, hsz3, hmp⟩ := hX3.out.mv.update under88 under9 nm (varv (ty, ln))
    have hX4 := hid (hX3.out.putV hg3 (by rw [← putM_map varv]; exact hmp))
    clear hg3 hsz3 hmp
    go_wp2_with fail
    exact ⟨⟨k + 1, putM nm (ty, ln) vs, by omega, by go_num, by rw [hA.out, hdr.out]; simp [gatG, hha], hX4.out⟩, by simp only [intOf]; omega⟩
  ·have hk2 : k = mg := by omega
   subst k
   have hV := hid (show gatG gs [] = some vs by rw [hA.out, hMG.out, List.drop_length]; rfl)
   clear hA hga hG
   go_wp2_with fail
   go_loopw [39] (fun i wr => ∃ (k : Nat) (cs : CSg), k ≤ mh ∧ i = .int .i64 k ∧ gatH hs 0 vs [] = gatH (hs.drop k) k vs cs ∧ G40 w w.heap.size #[.slice ga mg gc, .slice ha mh hc, .slice fa mf fc] vs cs wr) (fun i _ => mh - (intOf i).toNat)
   case atStart => exact ⟨0, [], Nat.zero_le _, rfl, rfl, hX1.out⟩
   case round =>
    clear hX1 hb p0 p1 p2 hlt hk
    obtain ⟨k, cs, hk, rfl, hgat, hX⟩ := hrel
    have hA := hid hgat
    have hX1 := hid hX
    have hb := hid hX.below
    have p0 := hX1.out.b1.cell 0
    have p1 := hX1.out.b1.cell 1
    have p2 := hX1.out.b1.cell 2
    simp at p0 p1 p2
    clear hgat hX
    by_cases hlt : k < mh
    ·have hlt' : k < hs.length := by have := hMH.out; omega
     obtain ⟨⟨t, y0, _⟩, y1, ⟨v2, y2, y2'⟩, y3, y4⟩ := hH.out k hlt'
     have hdr := hid (show hs.drop k = hs[k] :: hs.drop (k + 1) from List.drop_eq_getElem_cons hlt')
     have x0 := cell_on y0 hb.out
     have x1 := cell_on y1 hb.out
     have x2 := cell_on y2 hb.out
     have x3 := cell_on y3 hb.out
     have x4 := cell_on y4 hb.out
     have hka2 : ha = some ⟨hbk, ho, none⟩ := by rcases hha with q | q; (· omega); (· exact q)
     subst hka2
     generalize hs[k] = a at x1 x2 x3 x4 hdr y2'
     obtain ⟨at0, nm, ps, ty, nu⟩ := a
     simp only [] at x1 x2 x3 x4 y2'
     obtain ⟨va, vc, rfl⟩ := y2'.shape'
     have hPS := hid y2'.plain
     clear hha y0 y1 y2 y3 y4 y2' p0 p1 p2
     have hX2 := hid (hX1.out.on ((Below.refl wr.heap.size wr).alloc (Nat.le_refl _) (.cells #[.int .i64 t, .string nm, .slice va ps.length vc, .int .u8 ty, .int .u32 nu] 101)))
     have q0 := hX2.out.b4.cell 0
     have q1 := hX2.out.b4.cell 1
     simp at q0 q1
     have cx := hid (has73 nm _ _ _ _ _ hX2.out.nm)
     cases hha : hasN vs cs nm with
     | true =>
      have hN := hid (show gatU ⟨gs, hs, fs⟩ = none by unfold gatU; rw [hV.out]; simp only []; rw [hA.out, hdr.out]; simp [gatH, hha])
      rw [hha] at cx
      go_wp2_with fail
      refine cx.out.mono ?_
      rintro e w2 ⟨rfl, hb2⟩
      have hX3 := hid (hX2.out.on hb2)
      clear hb2 cx q0 q1
      have q0 := hX3.out.b4.cell 0
      have q1 := hX3.out.b4.cell 1
      have z0 := hX3.out.b2.cell 0
      have z1 := hX3.out.b2.cell 1
      have f0 := hX3.out.b2.free 0
      have f1 := hX3.out.b2.free 1
      simp at q0 q1 z0 z1
      have hST := hid (hX3.out.b2.set 0 (.map (some (w.heap.size + 1 + 1))) |>.set 1 (.map (some (w.heap.size + 1 + 1 + 1))))
      simp at hST
      go_wp2_with fail
      refine bodyPost_ret (v := .tuple #[.agg #[.map (some (w.heap.size + 1 + 1)), .map (some (w.heap.size + 1 + 1 + 1))], .bool false]) ?_ rfl ?_
      ·rw [results_cell_tmp rfl]
       have hload := res40 _ _ _ _ hST.out
       simp [asAddr, Result.andThen, hload]
      ·exact P40.no hN.out (hX3.out.below.grown (grown2 _ _ _ _) hX3.out.below.size (fun k e => by cases e; omega))
     | false =>
      rw [hha] at cx
      go_wp2_with fail
      refine cx.out.mono ?_
      rintro e w2 ⟨rfl, hb2⟩
      have hX3 := hid (hX2.out.on hb2)
      have n1 := cell_on (show (wr.alloc (.cells #[.int .i64 t, .string nm, .slice va ps.length vc, .int .u8 ty, .int .u32 nu] 101)).cell? ⟨wr.heap.size, 1, none⟩ = some (.string nm) by simp [(Bx.new wr #[.int .i64 t, .string nm, .slice va ps.length vc, .int .u8 ty, .int .u32 nu] 101).cell 1]) hb2
      have n2 := cell_on (show (wr.alloc (.cells #[.int .i64 t, .string nm, .slice va ps.length vc, .int .u8 ty, .int .u32 nu] 101)).cell? ⟨wr.heap.size, 2, none⟩ = some (.slice va ps.length vc) by simp [(Bx.new wr #[.int .i64 t, .string nm, .slice va ps.length vc, .int .u8 ty, .int .u32 nu] 101).cell 2]) hb2
      have n3 := cell_on (show (wr.alloc (.cells #[.int .i64 t, .string nm, .slice va ps.length vc, .int .u8 ty, .int .u32 nu] 101)).cell? ⟨wr.heap.size, 3, none⟩ = some (.int .u8 ty) by simp [(Bx.new wr #[.int .i64 t, .string nm, .slice va ps.length vc, .int .u8 ty, .int .u32 nu] 101).cell 3]) hb2
      clear hb2 cx q0 q1
      have q1 := hX3.out.b4.cell 1
      simp at q1
      obtain ⟨l, hl1, hl2⟩ := hX3.out.mc
      obtain ⟨w3, hrun, hg3, hsz3, hmp⟩ := hl1.update under89 under9 nm (.agg #[.slice va ps.length vc, .int .u8 ty, .int .i64 k, .int .i64 (-1)])
      have hX4 := hid (hX3.out.putC hg3 hmp (hl2.put nm (g := ⟨ps, ty, k, -1⟩) ⟨_, rfl, hPS.out⟩))
      clear hg3 hsz3 hmp hl1 hl2
      go_wp2_with fail
      exact ⟨⟨k + 1, putM nm ⟨ps, ty, k, -1⟩ cs, by omega, by go_num, by rw [hA.out, hdr.out]; simp [gatH, hha], hX4.out⟩, by simp only [intOf]; omega⟩
    ·have hk2 : k = mh := by omega
     subst k
     have hC := hid (show gatH hs 0 vs [] = some cs by rw [hA.out, hMH.out, List.drop_length]; rfl)
     clear hA hha hH
     go_wp2_with fail
     go_loopw [63] (fun i wr => ∃ (k : Nat) (c2 : CSg), k ≤ mf ∧ i = .int .i64 k ∧ gatF fs 0 vs cs = gatF (fs.drop k) k vs c2 ∧ G40 w w.heap.size #[.slice ga mg gc, .slice ha mh hc, .slice fa mf fc] vs c2 wr) (fun i _ => mf - (intOf i).toNat)
     case atStart => exact ⟨0, cs, Nat.zero_le _, rfl, rfl, hX1.out⟩
     case round =>
      clear hX1 hb p0 p1 p2 hlt hk
      obtain ⟨k, c2, hk, rfl, hgat, hX⟩ := hrel
      have hA := hid hgat
      have hX1 := hid hX
      have hb := hid hX.below
      have p0 := hX1.out.b1.cell 0
      have p1 := hX1.out.b1.cell 1
      have p2 := hX1.out.b1.cell 2
      simp at p0 p1 p2
      clear hgat hX
      by_cases hlt : k < mf
      ·have hlt' : k < fs.length := by have := hMF.out; omega
       obtain ⟨⟨t, y0, _⟩, y1, ⟨v2, y2, y2'⟩, y3, y4, ⟨v5, y5, y5'⟩⟩ := hF.out k hlt'
       have hdr := hid (show fs.drop k = fs[k] :: fs.drop (k + 1) from List.drop_eq_getElem_cons hlt')
       have x0 := cell_on y0 hb.out
       have x1 := cell_on y1 hb.out
       have x2 := cell_on y2 hb.out
       have x3 := cell_on y3 hb.out
       have x4 := cell_on y4 hb.out
       have x5 := cell_on y5 hb.out
       have hka2 : fa = some ⟨fb, fo, none⟩ := by rcases hfa with q | q; (· omega); (· exact q)
       subst hka2
       generalize fs[k] = a at x1 x2 x3 x4 x5 hdr y2' y5'
       obtain ⟨at0, nm, ps, ty, op, bd⟩ := a
       simp only [] at x1 x2 x3 x4 x5 y2' y5'
       obtain ⟨va, vc, rfl⟩ := y2'.shape'
       obtain ⟨ba, bc, rfl⟩ := y5'.shape'
       have hPS := hid y2'.plain
       clear hfa y0 y1 y2 y3 y4 y5 y2' y5' p0 p1 p2
       have hX2 := hid (hX1.out.on ((Below.refl wr.heap.size wr).alloc (Nat.le_refl _) (.cells #[.int .i64 t, .string nm, .slice va ps.length vc, .int .u8 ty, .bool op, .slice ba bd.len bc] 43)))
       have q0 := hX2.out.b4.cell 0
       have q1 := hX2.out.b4.cell 1
       simp at q0 q1
       have cx := hid (has73 nm _ _ _ _ _ hX2.out.nm)
       cases hha : hasN vs c2 nm with
       | true =>
        have hN := hid (show gatU ⟨gs, hs, fs⟩ = none by unfold gatU; rw [hV.out]; simp only []; rw [hC.out]; simp only []; rw [hA.out, hdr.out]; simp [gatF, hha])
        rw [hha] at cx
        go_wp2_with fail
        refine cx.out.mono ?_
        rintro e w2 ⟨rfl, hb2⟩
        have hX3 := hid (hX2.out.on hb2)
        clear hb2 cx q0 q1
        have q0 := hX3.out.b4.cell 0
        have q1 := hX3.out.b4.cell 1
        have z0 := hX3.out.b2.cell 0
        have z1 := hX3.out.b2.cell 1
        have f0 := hX3.out.b2.free 0
        have f1 := hX3.out.b2.free 1
        simp at q0 q1 z0 z1
        have hST := hid (hX3.out.b2.set 0 (.map (some (w.heap.size + 1 + 1))) |>.set 1 (.map (some (w.heap.size + 1 + 1 + 1))))
        simp at hST
        go_wp2_with fail
        refine bodyPost_ret (v := .tuple #[.agg #[.map (some (w.heap.size + 1 + 1)), .map (some (w.heap.size + 1 + 1 + 1))], .bool false]) ?_ rfl ?_
        ·rw [results_cell_tmp rfl]
         have hload := res40 _ _ _ _ hST.out
         simp [asAddr, Result.andThen, hload]
        ·exact P40.no hN.out (hX3.out.below.grown (grown2 _ _ _ _) hX3.out.below.size (fun k e => by cases e; omega))
       | false =>
        rw [hha] at cx
        go_wp2_with fail
        refine cx.out.mono ?_
        rintro e w2 ⟨rfl, hb2⟩
        have hX3 := hid (hX2.out.on hb2)
        have n1 := cell_on (show (wr.alloc (.cells #[.int .i64 t, .string nm, .slice va ps.length vc, .int .u8 ty, .bool op, .slice ba bd.len bc] 43)).cell? ⟨wr.heap.size, 1, none⟩ = some (.string nm) by simp [(Bx.new wr #[.int .i64 t, .string nm, .slice va ps.length vc, .int .u8 ty, .bool op, .slice ba bd.len bc] 43).cell 1]) hb2
        have n2 := cell_on (show (wr.alloc (.cells #[.int .i64 t, .string nm, .slice va ps.length vc, .int .u8 ty, .bool op, .slice ba bd.len bc] 43)).cell? ⟨wr.heap.size, 2, none⟩ = some (.slice va ps.length vc) by simp [(Bx.new wr #[.int .i64 t, .string nm, .slice va ps.length vc, .int .u8 ty, .bool op, .slice ba bd.len bc] 43).cell 2]) hb2
        have n3 := cell_on (show (wr.alloc (.cells #[.int .i64 t, .string nm, .slice va ps.length vc, .int .u8 ty, .bool op, .slice ba bd.len bc] 43)).cell? ⟨wr.heap.size, 3, none⟩ = some (.int .u8 ty) by simp [(Bx.new wr #[.int .i64 t, .string nm, .slice va ps.length vc, .int .u8 ty, .bool op, .slice ba bd.len bc] 43).cell 3]) hb2
        clear hb2 cx q0 q1
        have q1 := hX3.out.b4.cell 1
        simp at q1
        obtain ⟨l, hl1, hl2⟩ := hX3.out.mc
        obtain ⟨w3, hrun, hg3, hsz3, hmp⟩ := hl1.update under89 under9 nm (.agg #[.slice va ps.length vc, .int .u8 ty, .int .i64 (-1), .int .i64 k])
        have hX4 := hid (hX3.out.putC hg3 hmp (hl2.put nm (g := ⟨ps, ty, -1, k⟩) ⟨_, rfl, hPS.out⟩))
        clear hg3 hsz3 hmp hl1 hl2
        go_wp2_with fail
        exact ⟨⟨k + 1, putM nm ⟨ps, ty, -1, k⟩ c2, by omega, by go_num, by rw [hA.out, hdr.out]; simp [gatF, hha], hX4.out⟩, by simp only [intOf]; omega⟩
      ·have hk2 : k = mf := by omega
       subst k
       have hN := hid (show gatU ⟨gs, hs, fs⟩ = some (vs, c2) by unfold gatU;  rw [hV.out]; simp only []; rw [hC.out]; simp only []; rw [hA.out, hMF.out, List.drop_length]; rfl)
       clear hA hfa hF
       have q0 := hX1.out.b4.cell 0
       have q1 := hX1.out.b4.cell 1
       have z0 := hX1.out.b2.cell 0
       have z1 := hX1.out.b2.cell 1
       have f0 := hX1.out.b2.free 0
       have f1 := hX1.out.b2.free 1
       simp at q0 q1 z0 z1
       have hST := hid (hX1.out.b2.set 0 (.map (some (w.heap.size + 1 + 1))) |>.set 1 (.map (some (w.heap.size + 1 + 1 + 1))))
       simp at hST
       have hgr := grown2 wr (w.heap.size + 1) (.map (some (w.heap.size + 1 + 1))) (.map (some (w.heap.size + 1 + 1 + 1)))
       have hB9 := hid (hX1.out.below.grown hgr hX1.out.below.size (fun k e => by cases e; omega))
       have hN9 := hid (show NmR _ vs c2 _ _ from ⟨hX1.out.mv.on hgr (by simp <;> omega), by obtain ⟨l, h1, h2⟩ := hX1.out.mc; exact ⟨l, h1.on hgr (by simp <;> omega), h2.mono hB9.out⟩⟩)
       clear hgr
       go_wp2_with fail
       refine bodyPost_ret (v := .tuple #[.agg #[.map (some (w.heap.size + 1 + 1)), .map (some (w.heap.size + 1 + 1 + 1))], .bool true]) ?_ rfl ?_
       ·rw [results_cell_tmp rfl]
        have hload := res40 _ _ _ _ hST.out
        simp [asAddr, Result.andThen, hload]
       ·exact P40.yes hN.out hB9.out hN9.out
end
section
open Go.Shelf
theorem wpList_append_all {P : Program} {w : World} {ops : Array Oper} {rest : List Oper} {o : Oper} {a : Act} {Q : Exit → Act → World → Prop} (hgd : o.guard = none) (s x : Operand) (t : TypeId)
  (ho : o.op = .call { callee := .builtin .append, args := #[s, x], argTypes := #[t, t] })
  (base : Nat) (e : TypeId) (z : Value) (size bytes m : Nat) (ht : P.underlying t = some (.slice e)) (hinfo : (P.info? e).map (fun i => (i.zero, i.size, i.bytes)) = some (some z, size, bytes))
  (hzs : z.cells.size = size) (hsz : 0 < size) (v : Value) (n : Nat) (xs : List Value) (hown : w.ownsRow base e size v n xs)
  (ad : Addr) (c : Nat) (news : List Value) (hl : news.length = m * size) (hnews : ∀ j u, news[j]? = some u → w.cell? (ad.add j) = some u) (h1 : ∀ u ∈ news, u.oneCell' = true)
  (h63 : n + m ≤ maxLen) (hbytes : (n + m) * bytes ≤ 140737488355328) (hbase : base ≤ w.heap.size)
  (hs : a.eval s = v) (hx : a.eval x = .slice (some ad) m c)
  (h : ∀ v' w', Appended w w' base e size v v' n m xs news → wpList P ops Q rest (a.put o.dst v') w') :
  wpList P ops Q (o :: rest) a w := by
 obtain ⟨i, hi, hz0, hz1, hz2⟩ := info_parts hinfo
 subst hz1
 subst hz2
 refine wpList_plain hgd fun K hK => ?_
 obtain ⟨v', w', hr, hA⟩ := append_strong (P := P) w base t o.type e i z ht hi hz0 hzs hsz v n xs hown ad m c news hl hnews h1 h63 hbytes hbase
 unfold Oper.wp execOp
 simp only [ho, resolve, invoke, builtin, Sem.run_bind, Sem.run_pure, Result.andThen_ok, List.map_toArray, List.map_cons, List.map_nil, hs, hx, hr]
 exact hK _ _ (h v' w' hA)
theorem ownsRow_empty (w : World) (e : TypeId) (size : Nat) : (w.alloc (.cells #[] e)).ownsRow w.heap.size e size (.slice (some ⟨w.heap.size, 0, none⟩) 0 0) 0 [] :=
 ⟨by simp, .inr ⟨w.heap.size, 0, #[], rfl, Nat.le_refl _, heap_alloc_new w _, Nat.le_refl _, by decide, by simp, by simp⟩⟩
theorem clone45 (ka : Option Addr) (m c : Nat) (news : List Value) (w : World) (hl : news.length = m * 1) (hn : Hid (m = 0 ∨ ∃ a, ka = some a ∧ ∀ j u, news[j]? = some u → w.cell? (a.add j) = some u)) (h1 : Hid (∀ u ∈ news, u.oneCell' = true)) (hm : m ≤ 100000000) :
  Calls Tryz.prog 45 #[.slice ka m c] w fun e w' => ∃ v', e = .returned v' ∧ w'.ownsRow w.heap.size 52 1 v' m news ∧ Below w.heap.size w w' := by
 have qT : ∀ (w : World) (a : Option Addr) (n c n' c' : Nat), (binOp .eql 27 (.slice a n c) (.slice none n' c')).run Tryz.prog w = .ok (.bool a.isNone) w := fun w a n c n' c' => Lib.run_eql_slice_nil w _ _ a n c n' c' Tryz.underlying27
 cases ka with
 | none =>
  have hm0 : m = 0 := by rcases hn.out with h | ⟨a, h, _⟩; exact h; cases h
  subst hm0
  have hnil : news = [] := List.eq_nil_of_length_eq_zero (by simpa using hl)
  subst hnil
  go_enter Tryz.func45, Tryz.ntmps45
  go_wp2_with fail
  go_ret
  exact ⟨_, rfl, World.ownsRow_nil _ _ _ _, Below.refl _ _⟩
 | some ad =>
  have hrow := hid (ownsRow_empty w 52 1)
  have hB := hid ((Below.refl w.heap.size w).alloc (Nat.le_refl _) (.cells #[] 52))
  have hc : Hid (∀ j u, news[j]? = some u → (w.alloc (.cells #[] 52)).cell? (ad.add j) = some u) := hid (fun j u hj => by
   rcases hn.out with h | ⟨a, h, h2⟩
   ·subst h
    have hnil : news = [] := List.eq_nil_of_length_eq_zero (by simpa using hl)
    subst hnil
    simp at hj
   ·cases h
    exact cell_on (h2 j u hj) hB.out)
  go_enter Tryz.func45, Tryz.ntmps45
  go_wp2_with (at_builtin; refine wpList_append_all rfl _ _ 27 rfl w.heap.size 52 (.int .u32 0) 1 4 m Tryz.underlying27 (by kernel_rfl) rfl (by decide) _ 0 [] hrow.out ad c news hl hc.out h1.out (by unfold maxLen; omega) (by omega) (by simp) rfl rfl ?_; intro v' w' hA; have hR := hid hA.own; have hB2 := hid (hB.out.trans (below_of_own hA hrow.out (by simp))); clear hA)
  go_ret
  refine ⟨_, rfl, ?_, hB2.out⟩
  have := hR.out
  rwa [Nat.zero_add, List.nil_append] at this
theorem clone68 (ka : Option Addr) (m c : Nat) (news : List Value) (w : World) (hl : news.length = m * 5) (hn : Hid (m = 0 ∨ ∃ a, ka = some a ∧ ∀ j u, news[j]? = some u → w.cell? (a.add j) = some u)) (h1 : Hid (∀ u ∈ news, u.oneCell' = true)) (hm : m ≤ 100000000) :
  Calls Tryz.prog 68 #[.slice ka m c] w fun e w' => ∃ v', e = .returned v' ∧ w'.ownsRow w.heap.size 105 5 v' m news ∧ Below w.heap.size w w' := by
 have qT : ∀ (w : World) (a : Option Addr) (n c n' c' : Nat), (binOp .eql 22 (.slice a n c) (.slice none n' c')).run Tryz.prog w = .ok (.bool a.isNone) w := fun w a n c n' c' => Lib.run_eql_slice_nil w _ _ a n c n' c' Tryz.underlying22
 cases ka with
 | none =>
  have hm0 : m = 0 := by rcases hn.out with h | ⟨a, h, _⟩; exact h; cases h
  subst hm0
  have hnil : news = [] := List.eq_nil_of_length_eq_zero (by simpa using hl)
  subst hnil
  go_enter Tryz.func68, Tryz.ntmps68
  go_wp2_with fail
  go_ret
  exact ⟨_, rfl, World.ownsRow_nil _ _ _ _, Below.refl _ _⟩
 | some ad =>
  have hrow := hid (ownsRow_empty w 105 5)
  have hB := hid ((Below.refl w.heap.size w).alloc (Nat.le_refl _) (.cells #[] 105))
  have hc : Hid (∀ j u, news[j]? = some u → (w.alloc (.cells #[] 105)).cell? (ad.add j) = some u) := hid (fun j u hj => by
   rcases hn.out with h | ⟨a, h, h2⟩
   ·subst h
    have hnil : news = [] := List.eq_nil_of_length_eq_zero (by simpa using hl)
    subst hnil
    simp at hj
   ·cases h
    exact cell_on (h2 j u hj) hB.out)
  go_enter Tryz.func68, Tryz.ntmps68
  go_wp2_with (at_builtin; refine wpList_append_all rfl _ _ 22 rfl w.heap.size 105 (.agg #[.int .i64 0, .string ⟨#[]⟩, .int .u8 0, .int .u32 0, .int .u32 0]) 5 40 m Tryz.underlying22 (by kernel_rfl) rfl (by decide) _ 0 [] hrow.out ad c news hl hc.out h1.out (by unfold maxLen; omega) (by omega) (by simp) rfl rfl ?_; intro v' w' hA; have hR := hid hA.own; have hB2 := hid (hB.out.trans (below_of_own hA hrow.out (by simp))); clear hA)
  go_ret
  refine ⟨_, rfl, ?_, hB2.out⟩
  have := hR.out
  rwa [Nat.zero_add, List.nil_append] at this
theorem clone69 (ka : Option Addr) (m c : Nat) (news : List Value) (w : World) (hl : news.length = m * 5) (hn : Hid (m = 0 ∨ ∃ a, ka = some a ∧ ∀ j u, news[j]? = some u → w.cell? (a.add j) = some u)) (h1 : Hid (∀ u ∈ news, u.oneCell' = true)) (hm : m ≤ 100000000) :
  Calls Tryz.prog 69 #[.slice ka m c] w fun e w' => ∃ v', e = .returned v' ∧ w'.ownsRow w.heap.size 101 5 v' m news ∧ Below w.heap.size w w' := by
 have qT : ∀ (w : World) (a : Option Addr) (n c n' c' : Nat), (binOp .eql 23 (.slice a n c) (.slice none n' c')).run Tryz.prog w = .ok (.bool a.isNone) w := fun w a n c n' c' => Lib.run_eql_slice_nil w _ _ a n c n' c' Tryz.underlying23
 cases ka with
 | none =>
  have hm0 : m = 0 := by rcases hn.out with h | ⟨a, h, _⟩; exact h; cases h
  subst hm0
  have hnil : news = [] := List.eq_nil_of_length_eq_zero (by simpa using hl)
  subst hnil
  go_enter Tryz.func69, Tryz.ntmps69
  go_wp2_with fail
  go_ret
  exact ⟨_, rfl, World.ownsRow_nil _ _ _ _, Below.refl _ _⟩
 | some ad =>
  have hrow := hid (ownsRow_empty w 101 5)
  have hB := hid ((Below.refl w.heap.size w).alloc (Nat.le_refl _) (.cells #[] 101))
  have hc : Hid (∀ j u, news[j]? = some u → (w.alloc (.cells #[] 101)).cell? (ad.add j) = some u) := hid (fun j u hj => by
   rcases hn.out with h | ⟨a, h, h2⟩
   ·subst h
    have hnil : news = [] := List.eq_nil_of_length_eq_zero (by simpa using hl)
    subst hnil
    simp at hj
   ·cases h
    exact cell_on (h2 j u hj) hB.out)
  go_enter Tryz.func69, Tryz.ntmps69
  go_wp2_with (at_builtin; refine wpList_append_all rfl _ _ 23 rfl w.heap.size 101 (.agg #[.int .i64 0, .string ⟨#[]⟩, .slice none 0 0, .int .u8 0, .int .u32 0]) 5 56 m Tryz.underlying23 (by kernel_rfl) rfl (by decide) _ 0 [] hrow.out ad c news hl hc.out h1.out (by unfold maxLen; omega) (by omega) (by simp) rfl rfl ?_; intro v' w' hA; have hR := hid hA.own; have hB2 := hid (hB.out.trans (below_of_own hA hrow.out (by simp))); clear hA)
  go_ret
  refine ⟨_, rfl, ?_, hB2.out⟩
  have := hR.out
  rwa [Nat.zero_add, List.nil_append] at this
theorem clone70 (ka : Option Addr) (m c : Nat) (news : List Value) (w : World) (hl : news.length = m * 6) (hn : Hid (m = 0 ∨ ∃ a, ka = some a ∧ ∀ j u, news[j]? = some u → w.cell? (a.add j) = some u)) (h1 : Hid (∀ u ∈ news, u.oneCell' = true)) (hm : m ≤ 100000000) :
  Calls Tryz.prog 70 #[.slice ka m c] w fun e w' => ∃ v', e = .returned v' ∧ w'.ownsRow w.heap.size 43 6 v' m news ∧ Below w.heap.size w w' := by
 have qT : ∀ (w : World) (a : Option Addr) (n c n' c' : Nat), (binOp .eql 24 (.slice a n c) (.slice none n' c')).run Tryz.prog w = .ok (.bool a.isNone) w := fun w a n c n' c' => Lib.run_eql_slice_nil w _ _ a n c n' c' Tryz.underlying24
 cases ka with
 | none =>
  have hm0 : m = 0 := by rcases hn.out with h | ⟨a, h, _⟩; exact h; cases h
  subst hm0
  have hnil : news = [] := List.eq_nil_of_length_eq_zero (by simpa using hl)
  subst hnil
  go_enter Tryz.func70, Tryz.ntmps70
  go_wp2_with fail
  go_ret
  exact ⟨_, rfl, World.ownsRow_nil _ _ _ _, Below.refl _ _⟩
 | some ad =>
  have hrow := hid (ownsRow_empty w 43 6)
  have hB := hid ((Below.refl w.heap.size w).alloc (Nat.le_refl _) (.cells #[] 43))
  have hc : Hid (∀ j u, news[j]? = some u → (w.alloc (.cells #[] 43)).cell? (ad.add j) = some u) := hid (fun j u hj => by
   rcases hn.out with h | ⟨a, h, h2⟩
   ·subst h
    have hnil : news = [] := List.eq_nil_of_length_eq_zero (by simpa using hl)
    subst hnil
    simp at hj
   ·cases h
    exact cell_on (h2 j u hj) hB.out)
  go_enter Tryz.func70, Tryz.ntmps70
  go_wp2_with (at_builtin; refine wpList_append_all rfl _ _ 24 rfl w.heap.size 43 (.agg #[.int .i64 0, .string ⟨#[]⟩, .slice none 0 0, .int .u8 0, .bool false, .slice none 0 0]) 6 80 m Tryz.underlying24 (by kernel_rfl) rfl (by decide) _ 0 [] hrow.out ad c news hl hc.out h1.out (by unfold maxLen; omega) (by omega) (by simp) rfl rfl ?_; intro v' w' hA; have hR := hid hA.own; have hB2 := hid (hB.out.trans (below_of_own hA hrow.out (by simp))); clear hA)
  go_ret
  refine ⟨_, rfl, ?_, hB2.out⟩
  have := hR.out
  rwa [Nat.zero_add, List.nil_append] at this
theorem clone71 (ka : Option Addr) (m c : Nat) (news : List Value) (w : World) (hl : news.length = m * 2) (hn : Hid (m = 0 ∨ ∃ a, ka = some a ∧ ∀ j u, news[j]? = some u → w.cell? (a.add j) = some u)) (h1 : Hid (∀ u ∈ news, u.oneCell' = true)) (hm : m ≤ 100000000) :
  Calls Tryz.prog 71 #[.slice ka m c] w fun e w' => ∃ v', e = .returned v' ∧ w'.ownsRow w.heap.size 46 2 v' m news ∧ Below w.heap.size w w' := by
 have qT : ∀ (w : World) (a : Option Addr) (n c n' c' : Nat), (binOp .eql 39 (.slice a n c) (.slice none n' c')).run Tryz.prog w = .ok (.bool a.isNone) w := fun w a n c n' c' => Lib.run_eql_slice_nil w _ _ a n c n' c' Tryz.underlying39
 cases ka with
 | none =>
  have hm0 : m = 0 := by rcases hn.out with h | ⟨a, h, _⟩; exact h; cases h
  subst hm0
  have hnil : news = [] := List.eq_nil_of_length_eq_zero (by simpa using hl)
  subst hnil
  go_enter Tryz.func71, Tryz.ntmps71
  go_wp2_with fail
  go_ret
  exact ⟨_, rfl, World.ownsRow_nil _ _ _ _, Below.refl _ _⟩
 | some ad =>
  have hrow := hid (ownsRow_empty w 46 2)
  have hB := hid ((Below.refl w.heap.size w).alloc (Nat.le_refl _) (.cells #[] 46))
  have hc : Hid (∀ j u, news[j]? = some u → (w.alloc (.cells #[] 46)).cell? (ad.add j) = some u) := hid (fun j u hj => by
   rcases hn.out with h | ⟨a, h, h2⟩
   ·subst h
    have hnil : news = [] := List.eq_nil_of_length_eq_zero (by simpa using hl)
    subst hnil
    simp at hj
   ·cases h
    exact cell_on (h2 j u hj) hB.out)
  go_enter Tryz.func71, Tryz.ntmps71
  go_wp2_with (at_builtin; refine wpList_append_all rfl _ _ 39 rfl w.heap.size 46 (.agg #[.string ⟨#[]⟩, .int .u8 0]) 2 24 m Tryz.underlying39 (by kernel_rfl) rfl (by decide) _ 0 [] hrow.out ad c news hl hc.out h1.out (by unfold maxLen; omega) (by omega) (by simp) rfl rfl ?_; intro v' w' hA; have hR := hid hA.own; have hB2 := hid (hB.out.trans (below_of_own hA hrow.out (by simp))); clear hA)
  go_ret
  refine ⟨_, rfl, ?_, hB2.out⟩
  have := hR.out
  rwa [Nat.zero_add, List.nil_append] at this
theorem clone113 (ka : Option Addr) (m c : Nat) (news : List Value) (w : World) (hl : news.length = m * 8) (hn : Hid (m = 0 ∨ ∃ a, ka = some a ∧ ∀ j u, news[j]? = some u → w.cell? (a.add j) = some u)) (h1 : Hid (∀ u ∈ news, u.oneCell' = true)) (hm : m ≤ 100000000) :
  Calls Tryz.prog 113 #[.slice ka m c] w fun e w' => ∃ v', e = .returned v' ∧ w'.ownsRow w.heap.size 109 8 v' m news ∧ Below w.heap.size w w' := by
 have qT : ∀ (w : World) (a : Option Addr) (n c n' c' : Nat), (binOp .eql 41 (.slice a n c) (.slice none n' c')).run Tryz.prog w = .ok (.bool a.isNone) w := fun w a n c n' c' => Lib.run_eql_slice_nil w _ _ a n c n' c' Tryz.underlying41
 cases ka with
 | none =>
  have hm0 : m = 0 := by rcases hn.out with h | ⟨a, h, _⟩; exact h; cases h
  subst hm0
  have hnil : news = [] := List.eq_nil_of_length_eq_zero (by simpa using hl)
  subst hnil
  go_enter Tryz.func113, Tryz.ntmps113
  go_wp2_with fail
  go_ret
  exact ⟨_, rfl, World.ownsRow_nil _ _ _ _, Below.refl _ _⟩
 | some ad =>
  have hrow := hid (ownsRow_empty w 109 8)
  have hB := hid ((Below.refl w.heap.size w).alloc (Nat.le_refl _) (.cells #[] 109))
  have hc : Hid (∀ j u, news[j]? = some u → (w.alloc (.cells #[] 109)).cell? (ad.add j) = some u) := hid (fun j u hj => by
   rcases hn.out with h | ⟨a, h, h2⟩
   ·subst h
    have hnil : news = [] := List.eq_nil_of_length_eq_zero (by simpa using hl)
    subst hnil
    simp at hj
   ·cases h
    exact cell_on (h2 j u hj) hB.out)
  go_enter Tryz.func113, Tryz.ntmps113
  go_wp2_with (at_builtin; refine wpList_append_all rfl _ _ 41 rfl w.heap.size 109 (.agg #[.int .i64 0, .int .u8 0, .string ⟨#[]⟩, .int .u8 0, .string ⟨#[]⟩, .slice none 0 0, .slice none 0 0, .slice none 0 0]) 8 128 m Tryz.underlying41 (by kernel_rfl) rfl (by decide) _ 0 [] hrow.out ad c news hl hc.out h1.out (by unfold maxLen; omega) (by omega) (by simp) rfl rfl ?_; intro v' w' hA; have hR := hid hA.own; have hB2 := hid (hB.out.trans (below_of_own hA hrow.out (by simp))); clear hA)
  go_ret
  refine ⟨_, rfl, ?_, hB2.out⟩
  have := hR.out
  rwa [Nat.zero_add, List.nil_append] at this
theorem clone142 (ka : Option Addr) (m c : Nat) (news : List Value) (w : World) (hl : news.length = m * 7) (hn : Hid (m = 0 ∨ ∃ a, ka = some a ∧ ∀ j u, news[j]? = some u → w.cell? (a.add j) = some u)) (h1 : Hid (∀ u ∈ news, u.oneCell' = true)) (hm : m ≤ 100000000) :
  Calls Tryz.prog 142 #[.slice ka m c] w fun e w' => ∃ v', e = .returned v' ∧ w'.ownsRow w.heap.size 134 7 v' m news ∧ Below w.heap.size w w' := by
 have qT : ∀ (w : World) (a : Option Addr) (n c n' c' : Nat), (binOp .eql 107 (.slice a n c) (.slice none n' c')).run Tryz.prog w = .ok (.bool a.isNone) w := fun w a n c n' c' => Lib.run_eql_slice_nil w _ _ a n c n' c' Tryz.underlying107
 cases ka with
 | none =>
  have hm0 : m = 0 := by rcases hn.out with h | ⟨a, h, _⟩; exact h; cases h
  subst hm0
  have hnil : news = [] := List.eq_nil_of_length_eq_zero (by simpa using hl)
  subst hnil
  go_enter Tryz.func142, Tryz.ntmps142
  go_wp2_with fail
  go_ret
  exact ⟨_, rfl, World.ownsRow_nil _ _ _ _, Below.refl _ _⟩
 | some ad =>
  have hrow := hid (ownsRow_empty w 134 7)
  have hB := hid ((Below.refl w.heap.size w).alloc (Nat.le_refl _) (.cells #[] 134))
  have hc : Hid (∀ j u, news[j]? = some u → (w.alloc (.cells #[] 134)).cell? (ad.add j) = some u) := hid (fun j u hj => by
   rcases hn.out with h | ⟨a, h, h2⟩
   ·subst h
    have hnil : news = [] := List.eq_nil_of_length_eq_zero (by simpa using hl)
    subst hnil
    simp at hj
   ·cases h
    exact cell_on (h2 j u hj) hB.out)
  go_enter Tryz.func142, Tryz.ntmps142
  go_wp2_with (at_builtin; refine wpList_append_all rfl _ _ 107 rfl w.heap.size 134 (.agg #[.int .i64 0, .int .u8 0, .int .u32 0, .int .u8 0, .string ⟨#[]⟩, .string ⟨#[]⟩, .slice none 0 0]) 7 80 m Tryz.underlying107 (by kernel_rfl) rfl (by decide) _ 0 [] hrow.out ad c news hl hc.out h1.out (by unfold maxLen; omega) (by omega) (by simp) rfl rfl ?_; intro v' w' hA; have hR := hid hA.own; have hB2 := hid (hB.out.trans (below_of_own hA hrow.out (by simp))); clear hA)
  go_ret
  refine ⟨_, rfl, ?_, hB2.out⟩
  have := hR.out
  rwa [Nat.zero_add, List.nil_append] at this
end
end Go.Proofs.YtlabadkfkbenoaaGreatDoor
