/- Walks and plain laws, merged: SenK SenL SenN. No condition. -/
import Derived.Defers
import Derived.Recover
import Derived.Test.YtlabadkfkbenoaaGreatDoorKn03
import Derived.Test.YtlabadkfkbenoaaGreatDoorKn04
import Derived.Test.YtlabadkfkbenoaaGreatDoorKn16
import Derived.Outline
import Derived.Deep.RegionHeld3
import Derived.Test.YtlabadkfkbenoaaGreatDoorKn01
import Derived.Test.YtlabadkfkbenoaaGreatDoorKn13
namespace Go.Proofs.YtlabadkfkbenoaaGreatDoor
open Go.RowKit
set_option linter.unusedVariables false
set_option linter.unusedSimpArgs false
set_option maxRecDepth 100000
section
theorem assert238 (v : Value) (w : World) : (Instr.typeAssert (.iface 238 v) 20 238 true).run Tryz.prog w = .ok (.tuple #[v, .bool true]) w := by kernel_rfl
theorem eqnil238 (v : Value) (w : World) : (binOp .eql 20 (.iface 238 v) .nilIface).run Tryz.prog w = .ok (.bool false) w := by kernel_rfl
set_option maxHeartbeats 2000000 in
theorem caught140_p (b : Nat) (x er : Int) (older : List PanicEntry) (w : World) (hc : w.cell? ⟨b, 0, none⟩ = some (.int .i64 x)) (hz : w.frozen? ⟨b, 0, none⟩ = false) (hp : b < w.heap.size) :
  CallsD Tryz.prog 140 #[.pointer (some ⟨b, 0, none⟩)] (.panicking ({ v := .iface 238 (.agg #[.int .i64 er]), recovered := false } :: older)) w fun e u' w' =>
   e = .returned (.tuple #[]) ∧ u' = .panicking ({ v := .iface 238 (.agg #[.int .i64 er]), recovered := true } :: older) ∧ w' = (w.setCell ⟨b, 0, none⟩ (.int .i64 er)).alloc (.cells #[.int .i64 er] 238) := by
 refine callsD_of_wpS Tryz.func140 rfl fun c₀ cs hu => ?_
 apply wpS_seq
 apply wpS_region
 simp [wpOpsS, go_sem, recoverD, hu, Tryz.ntmps140, Exit.thenS]
 refine wpS_of_wp ?_
 have h1 := assert238
 have h2 := eqnil238
 have hz2 : (w.alloc (.cells #[.int .i64 er] 238)).frozen? ⟨b, 0, none⟩ = false := by rw [World.frozen?_alloc_past _ _ _ hp]; exact hz
 have hc2 : (w.alloc (.cells #[.int .i64 er] 238)).cell? ⟨b, 0, none⟩ = some (.int .i64 x) := by rw [World.cell?_alloc_past _ _ _ hp]; exact hc
 go_wp2_with fail
 simp [bodyPostS, results, Tryz.results140, go_sem]
set_option maxHeartbeats 2000000 in
theorem caught140_n (p : Addr) (w : World) :
  CallsD Tryz.prog 140 #[.pointer (some p)] .returning w fun e u' w' => e = .returned (.tuple #[]) ∧ u' = .returning ∧ w' = w := by
 refine callsD_of_wpS Tryz.func140 rfl fun c₀ cs hu => ?_
 apply wpS_seq
 apply wpS_region
 simp [wpOpsS, go_sem, recoverD, hu, Tryz.ntmps140, Exit.thenS]
 refine wpS_of_wp ?_
 go_wp2_with fail
 cases c₀
 simp_all [bodyPostS, results, Tryz.results140, go_sem]
set_option maxHeartbeats 4000000 in
theorem caught109 (pc pf : Addr) (w : World) (R : Ending → World → Prop) (h : Hid (Calls Tryz.prog 110 #[.pointer (some pc), .pointer (some pf)] (w.alloc (.cells #[.int .i64 0] 32)) R))
  (hR : Hid (∀ e w', R e w' → Bx w' w.heap.size #[.int .i64 0] 32 ∧ (e = .returned (.tuple #[]) ∨ ∃ er, e = flt er))) :
  Calls Tryz.prog 109 #[.func (.func 110) #[] #[.pointer (some pc), .pointer (some pf)]] w fun e w' => ∃ e0 w1, R e0 w1 ∧
   ((e0 = .returned (.tuple #[]) ∧ e = .returned (.int .i64 0) ∧ w' = w1.setCell ⟨w.heap.size, 0, none⟩ (.int .i64 0)) ∨
    ∃ er, e0 = flt er ∧ e = .returned (.int .i64 er) ∧ w' = (w1.setCell ⟨w.heap.size, 0, none⟩ (.int .i64 er)).alloc (.cells #[.int .i64 er] 238)) := by
 have hmf : ∀ (fn : Fn) (first cap : Array Value) (w : World), (Instr.makeFunc fn first cap).run Tryz.prog w = .ok (.func fn first cap) w := fun _ _ _ _ => rfl
 go_enter_defers Tryz.func109, Tryz.ntmps109
 go_wp2_with fail
 refine h.out.mono ?_
 intro e w1 hr
 obtain ⟨hbx, he⟩ := hR.out e w1 hr
 have HRR := hid hr
 clear hr
 have hc := hbx.cell 0
 have hz := hbx.free 0
 have hlt := hbx.lt
 simp at hc
 rcases he with rfl | ⟨er, rfl⟩
 ·go_wp2_with fail
  refine leaves_cons (f := 140) (args := #[.pointer (some ⟨w.heap.size, 0, none⟩)]) (by simp) (by simp [go_sem]) ?_
  refine (caught140_n ⟨w.heap.size, 0, none⟩ _).mono ?_
  rintro e u' w'' ⟨rfl, rfl, rfl⟩
  have hc2 : (w1.setCell ⟨w.heap.size, 0, none⟩ (.int .i64 0)).cell? ⟨w.heap.size, 0, none⟩ = some (.int .i64 0) := by simpa using (hbx.set 0 (.int .i64 0)).cell 0
  simp [Leaves, settle, results, Tryz.results109, go_sem, hc2]
  exact ⟨_, _, HRR.out, .inl ⟨rfl, rfl⟩⟩
 ·go_wp2_with fail
  refine leaves_cons (f := 140) (args := #[.pointer (some ⟨w.heap.size, 0, none⟩)]) (by simp) (by simp [go_sem]) ?_
  refine (caught140_p w.heap.size 0 er [] _ hc hz hlt).mono ?_
  rintro e u' w'' ⟨rfl, rfl, rfl⟩
  have hc2 : ((w1.setCell ⟨w.heap.size, 0, none⟩ (.int .i64 er)).alloc (.cells #[.int .i64 er] 238)).cell? ⟨w.heap.size, 0, none⟩ = some (.int .i64 er) := by
   rw [World.cell?_alloc_past _ _ _ (by simpa [World.setCell] using hlt)]
   simpa using (hbx.set 0 (.int .i64 er)).cell 0
  simp [Leaves, settle, results, Tryz.results109, go_sem, hc2]
  exact ⟨_, _, HRR.out, .inr ⟨er, rfl, rfl, rfl⟩⟩
end
section
open Go.Shelf
theorem cl_all (w0 : World) (vs : List (ByteArray × (Int × Int))) (cs : List (ByteArray × Sig)) (ret : Int) (vb cb C : Nat) (hp : Hid (∀ s x, getM s cs = some x → x.params.length ≤ 100000000)) : ∀ n, CL w0 vs cs ret vb cb C n
 | 0 => fun l _ _ _ _ _ _ _ _ _ h => by omega
 | n + 1 => list111 w0 vs cs ret vb cb C n (hid (statement141 w0 vs cs ret vb cb C hp n (hid (cl_all w0 vs cs ret vb cb C hp n))))
section
variable (vs : List (ByteArray × (Int × Int))) (cs : List (ByteArray × Sig))
def addPars : List PW → Scope → Except Int Scope
 | [], sc => .ok sc
 | p :: r, sc => if (getM p.1 sc).isSome || hasN vs cs p.1 then .error 290 else addPars r (putM p.1 p.2 sc)
/-- a function's fault; 0: none -/
def chF (f : FH) : Int :=
 match addPars vs cs f.params [] with
 | .error e => e
 | .ok sc => if 128 < f.params.length + varsS f.body then 296 else match chS vs cs f.type f.body [sc] [] 0 with
  | .error e => e
  | .ok _ => if retS f.body then 0 else 295
end
/-! ### a fault is none of nought -/
def Hi {α : Type} (x : Except Int α) : Prop := ∀ e, x = .error e → 290 ≤ e
theorem varT_hi (vs : List (ByteArray × (Int × Int))) (ss : List Scope) (s : ByteArray) : Hi (varT vs ss s) := by
 intro e h
 unfold varT at h
 split at h
 ·cases h
 ·split at h
  ·split at h <;> cases h
   omega
  ·cases h; omega
theorem arrT_hi (vs : List (ByteArray × (Int × Int))) (ss : List Scope) (s : ByteArray) : Hi (arrT vs ss s) := by
 intro e h
 unfold arrT at h
 split at h
 ·split at h <;> cases h
  omega
 ·cases h; omega
theorem binT_hi (s : ByteArray) (a b : Int) : Hi (binT s a b) := by
 intro e h
 unfold binT at h
 repeat' split at h
 all_goals cases h
 all_goals omega
theorem callT_hi (cs : List (ByteArray × Sig)) (s : ByteArray) (ks : List Int) : Hi (callT cs s ks) := by
 intro e h
 unfold callT at h
 repeat' split at h
 all_goals cases h
 all_goals omega
theorem tyH_hi (vs : List (ByteArray × (Int × Int))) (cs : List (ByteArray × Sig)) (ss : List Scope) (h : EH) (ks : List Int) : Hi (tyH vs cs ss h ks) := by
 intro e hh
 unfold tyH at hh
 split at hh
 ·cases hh
 split at hh
 ·exact varT_hi _ _ _ e hh
 split at hh
 ·split at hh
  ·rename_i er hq
   cases hh
   exact arrT_hi _ _ _ _ hq
  ·split at hh <;> cases hh
   omega
 split at hh
 ·exact callT_hi _ _ _ e hh
 split at hh
 ·split at hh <;> cases hh
  omega
 split at hh
 ·exact binT_hi _ _ _ e hh
 split at hh <;> cases hh
theorem tyE_hi (vs : List (ByteArray × (Int × Int))) (cs : List (ByteArray × Sig)) (ss : List Scope) : ∀ l : Exs, Hi (tyE vs cs ss l)
 | .nil => fun e h => by cases h
 | .cons h k r => fun e hh => by
  have i1 := tyE_hi vs cs ss k
  have i2 := tyE_hi vs cs ss r
  simp only [tyE] at hh
  split at hh
  ·rename_i er hq; cases hh; exact i1 _ hq
  ·split at hh
   ·rename_i er hq; cases hh; exact tyH_hi _ _ _ _ _ _ hq
   ·split at hh
    ·rename_i er hq; cases hh; exact i2 _ hq
    ·cases hh
theorem signT_hi (s : ByteArray) (t : Int) : Hi (signT s t) := by
 intro e h
 unfold signT at h
 split at h
 ·cases h
 ·split at h
  ·rename_i er hq; cases h; exact binT_hi _ _ _ _ hq
  ·cases h
theorem unitE_hi {α : Type} {x : Except Int α} (h : Hi x) : Hi (unitE x) := by
 intro e hh
 cases x with
 | ok a => cases hh
 | error er => cases hh; exact h _ rfl
theorem stF_hi (vs : List (ByteArray × (Int × Int))) (cs : List (ByteArray × Sig)) (ret : Int) (h : SH) (x : Exs) (rb re rw : Except Int Unit) (hb : Hi rb) (he : Hi re) (hw : Hi rw) (ss : List Scope) (c : Scope) (lp : Nat) : Hi (stF vs cs ret h x rb re rw ss c lp) := by
 intro e hh
 unfold stF at hh
 split at hh
 ·rename_i er hq; cases hh; exact tyE_hi _ _ _ _ _ hq
 repeat' split at hh
 all_goals (first | (cases hh; omega) | (cases hh; done) | skip)
 all_goals (rename_i hq; cases hh)
 all_goals (first | exact varT_hi _ _ _ _ hq | exact arrT_hi _ _ _ _ hq | exact signT_hi _ _ _ hq | exact hb _ rfl | exact he _ rfl | exact hw _ rfl)
theorem chS_hi (vs : List (ByteArray × (Int × Int))) (cs : List (ByteArray × Sig)) (ret : Int) : ∀ (l : Sts) (ss : List Scope) (c : Scope) (lp : Nat), Hi (chS vs cs ret l ss c lp)
 | .nil, _, _, _ => fun e h => by cases h
 | .cons h x b e r, ss, c, lp => fun er hh => by
  have i1 := chS_hi vs cs ret b
  have i2 := chS_hi vs cs ret e
  have i3 := chS_hi vs cs ret r
  simp only [chS] at hh
  split at hh
  ·rename_i e2 hq
   cases hh
   exact stF_hi _ _ _ _ _ _ _ _ (unitE_hi (i1 _ _ _)) (unitE_hi (i2 _ _ _)) (unitE_hi (i1 _ _ _)) _ _ _ _ hq
  ·exact i3 _ _ _ _ hh
theorem Bx.al {w : World} {q : Nat} {cs : Array Value} {t : TypeId} (h : Bx w q cs t) (o : Obj) : Bx (w.alloc o) q cs t :=
 h.on (grown_of_below ((Below.refl w.heap.size w).alloc (Nat.le_refl _) o)) (by simp)
theorem Mp.al {w : World} {b : Nat} {l : List (ByteArray × Value)} (h : Mp w b l) (o : Obj) : Mp (w.alloc o) b l := h.mono ((Below.refl w.heap.size w).alloc (Nat.le_refl _) o)
theorem closure110 (T F C : Nat) (bv : Value) (w : World) (R : Ending → World → Prop) (hT : w.cell? ⟨T, 0, none⟩ = some (.pointer (some ⟨C, 0, none⟩))) (hF : w.cell? ⟨F, 5, none⟩ = some bv) (hv : ∃ l, SlS w false none l bv)
  (h : Hid (Calls Tryz.prog 111 #[.pointer (some ⟨C, 0, none⟩), bv] w R)) (hR : Hid (∀ e w', R e w' → e = .returned (.tuple #[]) ∨ ∃ er, e = flt er)) :
  Calls Tryz.prog 110 #[.pointer (some ⟨T, 0, none⟩), .pointer (some ⟨F, 0, none⟩)] w R := by
 obtain ⟨l, hv⟩ := hv
 obtain ⟨ka, kc, rfl⟩ := hv.shape'
 clear hv
 go_enter Tryz.func110, Tryz.ntmps110
 go_wp2_with fail
 refine h.out.mono ?_
 intro e w1 hr
 have HRR := hid hr
 rcases hR.out e w1 hr with rfl | ⟨er, rfl⟩
 ·clear hr
  go_wp2_with fail
  go_end0
  exact HRR.out
 ·clear hr
  go_wp2_with fail
  exact bp_panic HRR.out
end
section
open Go.Shelf
theorem Mp.boxes {w w' : World} {P q : Nat} {l : List (ByteArray × Value)} {cs : Array Value} {t : TypeId} (h : Bx w q cs t) (hm : Mp w P l) (hg : w.grownBy w' (some P)) : Bx w' q cs t :=
 h.on hg (by have := h.not_map hm; simp; exact fun e => this e.symm)
/-- what stands while the parameters are looked at -/
structure F65 (w : World) (vs : List (ByteArray × (Int × Int))) (cs : List (ByteArray × Sig)) (vb cb n : Nat) (box : Array Value) (ty : Int) (sc : Scope) (wr : World) : Prop where
 b0 : Bx wr n #[.map (some vb), .map (some cb)] 91
 b1 : Bx wr (n + 1) box 43
 b2 : Bx wr (n + 1 + 1) #[.map (some vb), .map (some cb), .slice none 0 0, .int .u8 ty, .int .i64 0, .int .i64 0, .int .i64 0] 193
 b3 : Bx wr (n + 1 + 1 + 1) #[.pointer (some ⟨n + 1 + 1, 0, none⟩)] 189
 mp : Mp wr (n + 1 + 1 + 1 + 1) (scv sc)
 below : Below n w wr
theorem F65.on {w wr w' : World} {vs : List (ByteArray × (Int × Int))} {cs : List (ByteArray × Sig)} {vb cb n : Nat} {box : Array Value} {ty : Int} {sc : Scope} (h : F65 w vs cs vb cb n box ty sc wr) (hb : Below wr.heap.size wr w') : F65 w vs cs vb cb n box ty sc w' :=
 ⟨h.b0.on (grown_of_below hb) (by simp), h.b1.on (grown_of_below hb) (by simp), h.b2.on (grown_of_below hb) (by simp), h.b3.on (grown_of_below hb) (by simp), h.mp.mono hb, h.below.trans (hb.mono (by have := h.b0.lt; omega))⟩
theorem F65.put {w wr w' : World} {vs : List (ByteArray × (Int × Int))} {cs : List (ByteArray × Sig)} {vb cb n : Nat} {box : Array Value} {ty : Int} {sc sc' : Scope} (h : F65 w vs cs vb cb n box ty sc wr) (hg : wr.grownBy w' (some (n + 1 + 1 + 1 + 1))) (hm : Mp w' (n + 1 + 1 + 1 + 1) (scv sc')) : F65 w vs cs vb cb n box ty sc' w' :=
 ⟨h.mp.boxes h.b0 hg, h.mp.boxes h.b1 hg, h.mp.boxes h.b2 hg, h.mp.boxes h.b3 hg, hm, h.below.grown hg (by have := h.b0.lt; omega) (fun k e => by cases e; omega)⟩
theorem F65.start {w wr : World} {vs : List (ByteArray × (Int × Int))} {cs : List (ByteArray × Sig)} {vb cb : Nat} {box : Array Value} {ty : Int} {sc : Scope} (h : F65 w vs cs vb cb w.heap.size box ty sc wr) (hnm : NmR w vs cs vb cb) :
  ChR w vs cs ty vb cb (w.heap.size + 1 + 1) [sc] 0 wr.heap.size 1 [w.heap.size + 1 + 1 + 1 + 1] 0 0 ((wr.alloc (.cells #[.map (some (w.heap.size + 1 + 1 + 1 + 1))] 194)).setCell ⟨w.heap.size + 1 + 1, 2, none⟩ (.slice (some ⟨wr.heap.size, 0, none⟩) 1 1)) := by
 have hlt := h.mp.lt
 have hg := grown_setCell (wr.alloc (.cells #[.map (some (w.heap.size + 1 + 1 + 1 + 1))] 194)) ⟨w.heap.size + 1 + 1, 2, none⟩ (.slice (some ⟨wr.heap.size, 0, none⟩) 1 1)
 have hx := (Bx.new wr #[.map (some (w.heap.size + 1 + 1 + 1 + 1))] 194).on hg (by simp; omega)
 refine ⟨by simpa using (h.b2.al _).set 2 (.slice (some ⟨wr.heap.size, 0, none⟩) 1 1), ⟨by simp, .inr ⟨wr.heap.size, 1, _, rfl, h.below.size, hx, by simp, by decide, by simp, by simp⟩⟩, by simp, ?_, by simp, ?_, by omega, hnm, ?_⟩
 ·intro i h1 h2
  simp at h1
  subst i
  exact (h.mp.al _).on hg (by simp; omega)
 ·intro m hm
  simp at hm
  omega
 ·exact (h.below.alloc (by have := h.below.size; omega) _).setCell (by simp; omega) _
set_option maxHeartbeats 16000000 in
theorem function65 (vs : List (ByteArray × (Int × Int))) (cs : List (ByteArray × Sig)) (vb cb : Nat) (t : Int) (f : FH) (pv bv : Value) (w : World) (hnm : NmR w vs cs vb cb) (hp : Hid (∀ s x, getM s cs = some x → x.params.length ≤ 100000000))
    (hps : SlP w f.params pv) (hb : SlS w false none f.body bv) (hpl : f.params.length ≤ 100000000) (hbs : f.body.sz ≤ 99999990) (har : arS f.body = true) :
    Calls Tryz.prog 65 #[.agg #[.map (some vb), .map (some cb)], .agg #[.int .i64 t, .string f.name, pv, .int .u8 f.type, .bool f.opn, bv]] w fun e w' =>
      (∃ s, e = .returned (.tuple #[.int .i64 s, .int .i64 (chF vs cs f)])) ∧ Below w.heap.size w w' := by
  have hBV := hid hb
  obtain ⟨ba, bc, rfl⟩ := hb.shape'
  obtain ⟨pa, pb, po, pc, rfl, hpa, hpi⟩ := hps
  obtain ⟨f0, f1, ps, f3, f4, body⟩ := f
  simp only [] at hpa hpi hpl hbs har hBV ⊢
  obtain ⟨len, hlen⟩ : ∃ m, m = ps.length := ⟨_, rfl⟩
  rw [← hlen] at hpa hpl ⊢
  have HL := hid hlen
  have HP := hid hpi
  have NM := hid hnm
  have HS := hid (And.intro hbs har)
  obtain ⟨R, hR⟩ : ∃ r, r = chF vs cs ⟨f0, f1, ps, f3, f4, body⟩ := ⟨_, rfl⟩
  rw [← hR]
  have HR := hid hR
  obtain ⟨box, hbox⟩ : ∃ b : Array Value, b = #[.int .i64 t, .string f1, .slice pa len pc, .int .u8 f3, .bool f4, .slice ba body.len bc] := ⟨_, rfl⟩
  have hF0 := hid (show F65 w vs cs vb cb w.heap.size box f3 [] (((((w.alloc (.cells #[.map (some vb), .map (some cb)] 91)).alloc (.cells box 43)).alloc (.cells #[.map (some vb), .map (some cb), .slice none 0 0, .int .u8 f3, .int .i64 0, .int .i64 0, .int .i64 0] 193)).alloc (.cells #[.pointer (some ⟨w.heap.size + 1 + 1, 0, none⟩)] 189)).alloc (.map #[] 0)) from
    ⟨((((Bx.new w _ _).al _).al _).al _).al _, by simpa using (((Bx.new (w.alloc (.cells #[.map (some vb), .map (some cb)] 91)) box 43).al _).al _).al _,
     by simpa using ((Bx.new ((w.alloc (.cells #[.map (some vb), .map (some cb)] 91)).alloc (.cells box 43)) _ 193).al _).al _, by simpa using (Bx.new (((w.alloc (.cells #[.map (some vb), .map (some cb)] 91)).alloc (.cells box 43)).alloc (.cells #[.map (some vb), .map (some cb), .slice none 0 0, .int .u8 f3, .int .i64 0, .int .i64 0, .int .i64 0] 193)) _ 189).al _,
     by simpa [scv, Nat.add_assoc] using Mp.new ((((w.alloc (.cells #[.map (some vb), .map (some cb)] 91)).alloc (.cells box 43)).alloc (.cells #[.map (some vb), .map (some cb), .slice none 0 0, .int .u8 f3, .int .i64 0, .int .i64 0, .int .i64 0] 193)).alloc (.cells #[.pointer (some ⟨w.heap.size + 1 + 1, 0, none⟩)] 189)), by (repeat (first | exact Below.refl _ _ | refine Below.drew ?_ | refine Below.alloc ?_ (by simp <;> omega) _))⟩)
  rw [hbox] at hF0
  have HB := hid hbox
  clear hlen hpi hnm hbs har hR hb hbox
  have hmm : ∀ w : World, (Instr.makeMap 194 none).run Tryz.prog w = .ok (.map (some w.heap.size)) (w.alloc (.map #[] 0)) := fun w => run_makeMap 194 w
  go_enter Tryz.func65, Tryz.ntmps65
  go_wp2_with fail
  go_loopw [22] (fun i wr => ∃ (k : Nat) (sc : Scope), i = .int .i64 k ∧ k ≤ len ∧ addPars vs cs ps [] = addPars vs cs (ps.drop k) sc ∧ F65 w vs cs vb cb w.heap.size #[.int .i64 t, .string f1, .slice pa len pc, .int .u8 f3, .bool f4, .slice ba body.len bc] f3 sc wr) (fun i _ => len - (intOf i).toNat)
  case atStart => exact ⟨0, [], rfl, Nat.zero_le _, rfl, hF0.out⟩
  case round =>
    clear hF0
    obtain ⟨k, sc, rfl, hk, hadd, hF⟩ := hrel
    have hA := hid hadd
    have hFF := hid hF
    clear hadd
    have p2 := hF.b1.cell 2
    simp at p2
    by_cases hkl : k = len
    · subst k
      have hok := hid (show addPars vs cs ps [] = .ok sc by rw [hA.out, HL.out, List.drop_length]; rfl)
      have p5 := hF.b1.cell 5
      simp at p5
      have hvl := varsS_le body
      have hbz := HS.out.1
      have hwr : IntKind.i64.wrap ((len : Int) + (varsS body : Int)) = (len : Int) + (varsS body : Int) := IntWalk.i64_in _ (by omega)
      clear hF
      go_wp2_with fail
      refine wp_region_held_drew (S := (Below wr.heap.size wr)) (by kernel_rfl) (Below.refl _ _).drew (fun hHeld => ?_)
      refine tk 0 ?_ (hy := ?_) (h := ?_)
      rotate_left
      · intro w' hSw; go_simp; (try with_reducible rfl)
      try simp only [tpa, tpb, tpc, tpd, tpe]
      refine tk 1 ?_ (hy := ?_) (h := ?_)
      rotate_left
      · intro w' hSw; have q1 := cell_on p2 hSw; go_simp; (try with_reducible rfl)
      try simp only [tpa, tpb, tpc, tpd, tpe]
      refine tk 2 ?_ (hy := ?_) (h := ?_)
      rotate_left
      · intro w' hSw; go_simp; (try with_reducible rfl)
      try simp only [tpa, tpb, tpc, tpd, tpe]
      refine tk 3 ?_ (hy := ?_) (h := ?_)
      rotate_left
      · intro w' hSw; go_simp; (try with_reducible rfl)
      try simp only [tpa, tpb, tpc, tpd, tpe]
      refine tk 4 ?_ (hy := ?_) (h := ?_)
      rotate_left
      · intro w' hSw; have q1 := cell_on p5 hSw; go_simp; (try with_reducible rfl)
      try simp only [tpa, tpb, tpc, tpd, tpe]
      refine tr 5 (h := fun K hK => ?_)
      go_simp
      go_at_call 108
      refine (vars108 (body.sz + 1) body _ wr.drew (by omega) (by omega) (hBV.out.mono hFF.out.below.drew)).mono ?_
      rintro e w2 ⟨rfl, hb2⟩
      have hk := ((Below.refl wr.heap.size wr).drew).trans hb2
      clear hHeld
      go_wp2_with fail
      refine hK.out _ _ hk (fun hHeld => ?_)
      clear hK K hk
      try simp only [tpa, tpb, tpc, tpd, tpe]
      refine tk 6 ?_ (hy := ?_) (h := ?_)
      rotate_left
      · intro w' hSw; have q1 := hwr; go_simp; (try with_reducible rfl)
      try simp only [tpa, tpb, tpc, tpd, tpe]
      refine tk 7 ?_ (hy := ?_) (h := ?_)
      rotate_left
      · intro w' hSw; go_simp; (try with_reducible rfl)
      try simp only [tpa, tpb, tpc, tpd, tpe]
      refine wpAnyH_done (by kernel_rfl) ?_ _
      have hF3 := hid (hFF.out.on hHeld)
      clear hHeld hwr
      by_cases h128 : (128 : Int) < (len : Int) + (varsS body : Int)
      · have hh := hid (show R = 296 by rw [HR.out]; simp only [chF]; rw [hok.out]; simp only []; rw [if_pos (by have := HL.out; omega)])
        go_wp2_with fail
        go_ret2
        rw [hh.out]
        exact ⟨⟨_, rfl⟩, hF3.out.below⟩
      · have c3 := hF3.out.b3.cell 0
        have c2 := (hF3.out.b2.al (.cells #[.map (some (w.heap.size + 1 + 1 + 1 + 1))] 194)).cell 2
        simp at c3 c2
        have f2 := (hF3.out.b2.al (.cells #[.map (some (w.heap.size + 1 + 1 + 1 + 1))] 194)).free 2
        have hmf : ∀ (fn : Fn) (first cap : Array Value) (w : World), (Instr.makeFunc fn first cap).run Tryz.prog w = .ok (.func fn first cap) w := fun _ _ _ _ => rfl
        have CK := hid (hF3.out.start NM.out)
        have hgs := grown_setCell (w2.alloc (.cells #[.map (some (w.heap.size + 1 + 1 + 1 + 1))] 194)) ⟨w.heap.size + 1 + 1, 2, none⟩ (.slice (some ⟨w2.heap.size, 0, none⟩) 1 1)
        have B1 := hid ((hF3.out.b1.al (.cells #[.map (some (w.heap.size + 1 + 1 + 1 + 1))] 194)).on hgs (by simp))
        have B3 := hid ((hF3.out.b3.al (.cells #[.map (some (w.heap.size + 1 + 1 + 1 + 1))] 194)).on hgs (by simp))
        have CC := hid CK.out.below
        clear hgs
        go_wp2_with fail
        generalize ((w2.alloc (.cells #[.map (some (w.heap.size + 1 + 1 + 1 + 1))] 194)).setCell ⟨w.heap.size + 1 + 1, 2, none⟩ (.slice (some ⟨w2.heap.size, 0, none⟩) 1 1)) = W4 at *
        have hE := (Below.refl W4.heap.size W4).alloc (Nat.le_refl _) (.cells #[.int .i64 0] 32)
        have hCE := CK.out.on hE
        have B1e := B1.out.al (.cells #[.int .i64 0] 32)
        have B3e := B3.out.al (.cells #[.int .i64 0] 32)
        have BEe := hid (Bx.new W4 #[.int .i64 0] 32)
        have hT := B3e.cell 0
        have hFc := B1e.cell 5
        simp at hT hFc
        have B1h := hid B1e
        have B3h := hid B3e
        clear B1e B3e
        have cz := hid (closure110 (w.heap.size + 1 + 1 + 1) (w.heap.size + 1) (w.heap.size + 1 + 1) (.slice ba body.len bc) (W4.alloc (.cells #[.int .i64 0] 32)) (Post w vs cs f3 vb cb (w.heap.size + 1 + 1) [sc] 0 (W4.alloc (.cells #[.int .i64 0] 32)) (unitE (chS vs cs f3 body [sc] [] 0))) hT hFc ⟨body, hBV.out.mono hCE.below⟩ (hid (cl_all w vs cs f3 vb cb (w.heap.size + 1 + 1) hp (body.sz + 1) body _ [sc] 0 _ _ _ _ _ _ (Nat.lt_succ_self _) (by have := HS.out.1; simp; omega) (by have := HS.out.1; omega) HS.out.2 hBV.out hCE)) (hid (fun e w9 hP => by obtain ⟨_, h2⟩ := hP; split at h2; exact .inr ⟨_, h2.1⟩; exact .inl h2.1)))
        have cy := hid (caught109 ⟨w.heap.size + 1 + 1 + 1, 0, none⟩ ⟨w.heap.size + 1, 0, none⟩ W4 _ cz (hid (fun e w9 hP => by obtain ⟨h1, h2⟩ := hP; refine ⟨h1.kp _ _ 32 (by decide) (by decide) BEe.out, ?_⟩; split at h2; exact .inr ⟨_, h2.1⟩; exact .inl h2.1)))
        clear hT hFc cz hE hCE
        refine cy.out.mono ?_
        clear cy
        rintro e w8 ⟨e0, w7, ⟨hk1, hk2⟩, hway⟩
        have K7 := hid (hk1.kp _ _ 43 (by decide) (by decide) B1h.out)
        have K7b := hid (hk1.kp _ _ 189 (by decide) (by decide) B3h.out)
        have K7e := hid (hk1.kp _ _ 32 (by decide) (by decide) BEe.out)
        have B7 := hid ((CC.out.alloc (by have := CC.out.size; omega) (.cells #[.int .i64 0] 32)).trans hk1.below)
        have hWs : w.heap.size ≤ W4.heap.size := CC.out.size
        have hgs7 := hid (fun v => grown_setCell w7 ⟨W4.heap.size, 0, none⟩ v)
        have hWn : w.heap.size + 1 + 1 + 1 < W4.heap.size := B3.out.lt
        cases hq : chS vs cs f3 body [sc] [] 0 with
        | error er =>
          rw [hq] at hk2
          obtain ⟨rfl, st2, hst⟩ := hk2
          have her : 290 ≤ er := chS_hi _ _ _ _ _ _ _ _ hq
          rcases hway with ⟨h1, _⟩ | ⟨er2, h1, rfl, rfl⟩
          · cases h1
          obtain rfl : er = er2 := by simp [flt] at h1; exact h1
          have hh := hid (show R = er by rw [HR.out]; simp only [chF]; rw [hok.out]; simp only []; rw [if_neg (by have := HL.out; omega), hq])
          have q3 := ((K7b.out.on (hgs7.out (.int .i64 er)) (by simp; omega)).al (.cells #[.int .i64 er] 238)).cell 0
          simp at q3
          have q4 := cell_on (show (w7.setCell ⟨W4.heap.size, 0, none⟩ (.int .i64 er)).cell? ⟨w.heap.size + 1 + 1, 4, none⟩ = some (.int .i64 st2) by rw [World.cell?_of_block (w := w7) ((hgs7.out (.int .i64 er)).block _ (World.block_lt_of_cell? w7 _ hst) (by simp; omega))]; exact hst) ((Below.refl _ _).alloc (Nat.le_refl _) (.cells #[.int .i64 er] 238))
          have B8 := hid ((B7.out.setCell (by simp; omega) (.int .i64 er) (p := ⟨W4.heap.size, 0, none⟩)).alloc (by have := B7.out.size; simp [World.setCell]; omega) (.cells #[.int .i64 er] 238))
          have her2 : (er == 0) = false := by simp; omega
          have her3 : ¬ er = 0 := by omega
          clear hk1 hst h1 B1 B3
          go_wp2_with fail
          go_ret2
          rw [hh.out]
          exact ⟨⟨_, rfl⟩, B8.out⟩
        | ok u =>
          rw [hq] at hk2
          obtain ⟨rfl, -⟩ := hk2
          rcases hway with ⟨h1, rfl, rfl⟩ | ⟨er2, h1, _⟩
          rotate_left
          · cases h1
          have q5 := (K7.out.on (hgs7.out (.int .i64 0)) (by simp; omega)).cell 5
          simp at q5
          have B8 := hid (B7.out.setCell (by simp; omega) (.int .i64 0) (p := ⟨W4.heap.size, 0, none⟩))
          have cr := hid (returns112 (body.sz + 1) body (.slice ba body.len bc) (w7.setCell ⟨W4.heap.size, 0, none⟩ (.int .i64 0)) (Nat.lt_succ_self _) (by have := HS.out.1; omega) (hBV.out.mono B8.out))
          clear hk1 h1 B1 B3
          cases hr : retS body with
          | true =>
            have hh := hid (show R = 0 by rw [HR.out]; simp only [chF]; rw [hok.out]; simp only []; rw [if_neg (by have := HL.out; omega), hq]; simp [hr])
            rw [hr] at cr
            go_wp2_with fail
            refine cr.out.mono ?_
            rintro e w9 ⟨rfl, hb9⟩
            have B9 := hid (B8.out.trans (hb9.mono B8.out.size))
            clear hb9 cr
            go_wp2_with fail
            go_ret2
            rw [hh.out]
            exact ⟨⟨_, rfl⟩, B9.out⟩
          | false =>
            have hh := hid (show R = 295 by rw [HR.out]; simp only [chF]; rw [hok.out]; simp only []; rw [if_neg (by have := HL.out; omega), hq]; simp [hr])
            rw [hr] at cr
            go_wp2_with fail
            refine cr.out.mono ?_
            rintro e w9 ⟨rfl, hb9⟩
            have B9 := hid (B8.out.trans (hb9.mono B8.out.size))
            clear hb9 cr
            go_wp2_with fail
            go_ret2
            rw [hh.out]
            exact ⟨⟨_, rfl⟩, B9.out⟩
    · have hkk : k < len := by omega
      have hkp : k < ps.length := by have := HL.out; omega
      have hpa2 : pa = some ⟨pb, po, none⟩ := by rcases hpa with q | q; (· omega); (· exact q)
      subst hpa2
      obtain ⟨y0, y1⟩ := HP.out k hkp
      have hdr := hid (show ps.drop k = ps[k] :: ps.drop (k + 1) from List.drop_eq_getElem_cons hkp)
      generalize ps[k] = pk at y0 y1 hdr
      obtain ⟨nm, ty⟩ := pk
      simp only [] at y0 y1
      have hbel := hF.below
      have x0 := cell_on y0 hbel
      have x1 := cell_on y1 hbel
      have hF2 := hid (hF.on ((Below.refl wr.heap.size wr).alloc (Nat.le_refl _) (.cells #[.string nm, .int .u8 ty] 46)))
      have hlk := hF2.out.mp.lookup under194 under9 nm (.int .u8 0) (zero40 _) true
      rw [scv, getM_map (Value.int .u8)] at hlk
      clear hF y0 y1 hbel
      cases hg : getM nm sc with
      | some tt =>
        have hh := hid (show R = 290 by rw [HR.out]; simp only [chF]; rw [hA.out, hdr.out]; simp [addPars, hg])
        rw [hg] at hlk
        simp only [Option.map_some, Option.getD_some, Option.isSome_some, if_true] at hlk
        go_wp2_with fail
        go_ret2
        rw [hh.out]
        exact ⟨⟨_, rfl⟩, hF2.out.below⟩
      | none =>
        rw [hg] at hlk
        simp only [Option.map_none, Option.getD_none, Option.isSome_none, if_true] at hlk
        have cx := hid (has73 nm vs cs vb cb (wr.alloc (.cells #[.string nm, .int .u8 ty] 46)) (NM.out.mono hF2.out.below))
        have b0 := hF2.out.b0.cell 0
        have b0b := hF2.out.b0.cell 1
        simp at b0 b0b
        cases hha : hasN vs cs nm with
        | true =>
          have hh := hid (show R = 290 by rw [HR.out]; simp only [chF]; rw [hA.out, hdr.out]; simp [addPars, hha])
          rw [hha] at cx
          go_wp2_with fail
          refine cx.out.mono ?_
          rintro e w2 ⟨rfl, hb2⟩
          have hF3 := hid (hF2.out.on hb2)
          clear hb2 cx
          go_wp2_with fail
          go_ret2
          rw [hh.out]
          exact ⟨⟨_, rfl⟩, hF3.out.below⟩
        | false =>
          rw [hha] at cx
          go_wp2_with fail
          refine cx.out.mono ?_
          rintro e w2 ⟨rfl, hb2⟩
          have hF3 := hid (hF2.out.on hb2)
          have x0b := cell_on (show (wr.alloc (.cells #[.string nm, .int .u8 ty] 46)).cell? ⟨wr.heap.size, 0, none⟩ = some (.string nm) by simp [(Bx.new wr #[.string nm, .int .u8 ty] 46).cell 0]) hb2
          have x1b := cell_on (show (wr.alloc (.cells #[.string nm, .int .u8 ty] 46)).cell? ⟨wr.heap.size, 1, none⟩ = some (.int .u8 ty) by simp [(Bx.new wr #[.string nm, .int .u8 ty] 46).cell 1]) hb2
          clear hb2 cx
          obtain ⟨w3, hrun, hg3, hsz3, hmp⟩ := hF3.out.mp.update under194 under9 nm (.int .u8 ty)
          have hF4 := hid (hF3.out.put hg3 (sc' := putM nm ty sc) (by rw [scv, ← putM_map (Value.int .u8)]; exact hmp))
          clear hg3 hsz3 hmp
          go_wp2_with fail
          exact ⟨⟨k + 1, putM nm ty sc, by go_num, by omega, by rw [hA.out, hdr.out]; simp [addPars, hg, hha], hF4.out⟩, by simp only [intOf]; omega⟩
end
end Go.Proofs.YtlabadkfkbenoaaGreatDoor
