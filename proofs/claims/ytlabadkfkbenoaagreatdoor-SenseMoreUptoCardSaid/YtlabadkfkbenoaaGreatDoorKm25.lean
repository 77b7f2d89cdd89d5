/- Walks and plain laws, merged: CalG CalH CalL SevA SevB SevC CalO EvlM Frame. No condition. -/
import Derived.Test.YtlabadkfkbenoaaGreatDoorKm24
import Derived.Laws.ResultCell
import Derived.Test.YtlabadkfkbenoaaGreatDoorKm02
import Derived.Test.YtlabadkfkbenoaaGreatDoorKm06
import Derived.Test.YtlabadkfkbenoaaGreatDoorKm15
import Derived.Test.YtlabadkfkbenoaaGreatDoorRows
import Derived.ProofKit
import Derived.OpenShut
import Derived.ShutString
import Derived.ChangeOld
import Derived.JoinedCond
import Derived.SizedLaws
import Derived.Test.YtlabadkfkbenoaaGreatDoorKm01
namespace Go.Proofs.YtlabadkfkbenoaaGreatDoor
open Go.RowKit
set_option linter.unusedVariables false
set_option linter.unusedSimpArgs false
set_option maxRecDepth 100000
set_option maxHeartbeats 64000000
section
open Go.Shelf
theorem call17_noname (X b cb : Nat) (s : ByteArray) (z args : Value) (al : Int) (cx : Value) (w : World) (hX : X < w.heap.size) (h : w.cell? ⟨X, 6, none⟩ = some (.map (some b))) (h4 : w.cell? ⟨X, 4, none⟩ = some (.map (some cb))) (h0 : 0 ≤ al) (h1 : al ≤ 65536)
  (hl : (Instr.lookup 89 (.map (some cb)) (.string s) true).run Tryz.prog (w.alloc (.cells #[.int .u8 0, .int .u32 0, .int .u8 0, .int .i64 0, .int .i64 0, .slice none 0 0] 56)) = .ok (.tuple #[.agg #[.slice none 0 0, .int .u8 0, .int .i64 0, .int .i64 0], .bool false]) (w.alloc (.cells #[.int .u8 0, .int .u32 0, .int .u8 0, .int .i64 0, .int .i64 0, .slice none 0 0] 56))) :
  Calls Tryz.prog 17 #[.pointer (some ⟨X, 0, none⟩), .string s, args, .int .i64 al, cx] w fun e w' => e = .returned (.tuple #[zeroO, .int .i64 291]) ∧ Below w.heap.size w w' := by
 have h2 : (w.alloc (.cells #[.int .u8 0, .int .u32 0, .int .u8 0, .int .i64 0, .int .i64 0, .slice none 0 0] 56)).cell? ⟨X, 6, none⟩ = some (.map (some b)) := by
  rw [World.cell?_alloc_past _ _ _ (by simpa using hX)]
  exact h
 have h3 : (w.alloc (.cells #[.int .u8 0, .int .u32 0, .int .u8 0, .int .i64 0, .int .i64 0, .slice none 0 0] 56)).cell? ⟨X, 4, none⟩ = some (.map (some cb)) := by
  rw [World.cell?_alloc_past _ _ _ (by simpa using hX)]
  exact h4
 have c := hid (made41_yes X b _ h2)
 have d1 : ¬ al < 0 := by omega
 have d2 : ¬ 65536 < al := by omega
 clear h h2 hX h0 h1 h4
 go_enter Tryz.func17, Tryz.ntmps17
 go_wp2_with fail
 refine c.out.mono ?_
 rintro e w2 ⟨rfl, rfl⟩
 go_wp2_with fail
 simp [bodyPost, results, Tryz.results17, go_sem, zeroO]
 all_goals (repeat (first | exact Below.refl _ _ | refine Below.drew ?_ | refine Below.alloc ?_ (by simp <;> omega) _))
end
section
open Go.Shelf
theorem call17_host (X b cb : Nat) (s : ByteArray) (pa : Option Addr) (ln pc : Nat) (ty ho fi : Int) (args : Value) (al : Int) (cx : Value) (w : World) (hX : X < w.heap.size) (h : w.cell? ⟨X, 6, none⟩ = some (.map (some b))) (h4 : w.cell? ⟨X, 4, none⟩ = some (.map (some cb))) (hh : 0 ≤ ho) (h0 : 0 ≤ al) (h1 : al ≤ 65536)
  (hl : (Instr.lookup 89 (.map (some cb)) (.string s) true).run Tryz.prog (w.alloc (.cells #[.int .u8 0, .int .u32 0, .int .u8 0, .int .i64 0, .int .i64 0, .slice none 0 0] 56)) = .ok (.tuple #[.agg #[.slice pa ln pc, .int .u8 ty, .int .i64 ho, .int .i64 fi], .bool true]) (w.alloc (.cells #[.int .u8 0, .int .u32 0, .int .u8 0, .int .i64 0, .int .i64 0, .slice none 0 0] 56))) :
  Calls Tryz.prog 17 #[.pointer (some ⟨X, 0, none⟩), .string s, args, .int .i64 al, cx] w fun e w' => e = .returned (.tuple #[zeroO, .int .i64 291]) ∧ Below w.heap.size w w' := by
 have h2 : (w.alloc (.cells #[.int .u8 0, .int .u32 0, .int .u8 0, .int .i64 0, .int .i64 0, .slice none 0 0] 56)).cell? ⟨X, 6, none⟩ = some (.map (some b)) := by
  rw [World.cell?_alloc_past _ _ _ (by simpa using hX)]
  exact h
 have h3 : (w.alloc (.cells #[.int .u8 0, .int .u32 0, .int .u8 0, .int .i64 0, .int .i64 0, .slice none 0 0] 56)).cell? ⟨X, 4, none⟩ = some (.map (some cb)) := by
  rw [World.cell?_alloc_past _ _ _ (by simpa using hX)]
  exact h4
 have c := hid (made41_yes X b _ h2)
 have d1 : ¬ al < 0 := by omega
 have d2 : ¬ 65536 < al := by omega
 clear h h2 hX h0 h1 h4
 go_enter Tryz.func17, Tryz.ntmps17
 go_wp2_with fail
 refine c.out.mono ?_
 rintro e w2 ⟨rfl, rfl⟩
 go_wp2_with fail
 simp [bodyPost, results, Tryz.results17, go_sem, zeroO]
 all_goals (repeat (first | exact Below.refl _ _ | refine Below.drew ?_ | refine Below.alloc ?_ (by simp <;> omega) _))
theorem call17_arity (X b cb : Nat) (s : ByteArray) (pa : Option Addr) (ln pc : Nat) (ty ho fi : Int) (aa : Option Addr) (la lc : Nat) (al : Int) (cx : Value) (w : World) (hX : X < w.heap.size) (h : w.cell? ⟨X, 6, none⟩ = some (.map (some b))) (h4 : w.cell? ⟨X, 4, none⟩ = some (.map (some cb))) (hh : ho < 0) (hne : ln ≠ la) (h0 : 0 ≤ al) (h1 : al ≤ 65536)
  (hl : (Instr.lookup 89 (.map (some cb)) (.string s) true).run Tryz.prog (w.alloc (.cells #[.int .u8 0, .int .u32 0, .int .u8 0, .int .i64 0, .int .i64 0, .slice none 0 0] 56)) = .ok (.tuple #[.agg #[.slice pa ln pc, .int .u8 ty, .int .i64 ho, .int .i64 fi], .bool true]) (w.alloc (.cells #[.int .u8 0, .int .u32 0, .int .u8 0, .int .i64 0, .int .i64 0, .slice none 0 0] 56))) :
  Calls Tryz.prog 17 #[.pointer (some ⟨X, 0, none⟩), .string s, .slice aa la lc, .int .i64 al, cx] w fun e w' => e = .returned (.tuple #[zeroO, .int .i64 293]) ∧ Below w.heap.size w w' := by
 have h2 : (w.alloc (.cells #[.int .u8 0, .int .u32 0, .int .u8 0, .int .i64 0, .int .i64 0, .slice none 0 0] 56)).cell? ⟨X, 6, none⟩ = some (.map (some b)) := by
  rw [World.cell?_alloc_past _ _ _ (by simpa using hX)]
  exact h
 have h3 : (w.alloc (.cells #[.int .u8 0, .int .u32 0, .int .u8 0, .int .i64 0, .int .i64 0, .slice none 0 0] 56)).cell? ⟨X, 4, none⟩ = some (.map (some cb)) := by
  rw [World.cell?_alloc_past _ _ _ (by simpa using hX)]
  exact h4
 have c := hid (made41_yes X b _ h2)
 have d1 : ¬ al < 0 := by omega
 have d2 : ¬ 65536 < al := by omega
 have d3 : ¬ 0 ≤ ho := by omega
 have d4 : ((ln : Int) == (la : Int)) = false := by simp; omega
 have d5 : ¬ ((ln : Int) = (la : Int)) := by omega
 clear hh h h2 hX h0 h1 h4
 go_enter Tryz.func17, Tryz.ntmps17
 go_wp2_with fail
 refine c.out.mono ?_
 rintro e w2 ⟨rfl, rfl⟩
 go_wp2_with fail
 simp [bodyPost, results, Tryz.results17, go_sem, zeroO]
 all_goals (repeat (first | exact Below.refl _ _ | refine Below.drew ?_ | refine Below.alloc ?_ (by simp <;> omega) _))
end
section
open Go.Shelf
theorem grownTwo (w : World) (q i j : Nat) (a b : Value) : w.grownBy ((w.setCell ⟨q, i, none⟩ a).setCell ⟨q, j, none⟩ b) (some q) :=
 have h := ((Below.refl 0 w).setCell (p := ⟨q, i, none⟩) (Nat.zero_le _) a).setCell (p := ⟨q, j, none⟩) (Nat.zero_le _) b
 ⟨h.os, h.tape, h.output, h.size, fun k hk hn => by
  have hq : k ≠ q := fun e => hn (by rw [e])
  rw [Below.heap_setCell _ ⟨q, j, none⟩ _ k hq, Below.heap_setCell _ ⟨q, i, none⟩ _ k hq]⟩
section
variable {w : World} {B : Nat} {u : UT} {vs : VS} {cs : CSg} {hd : HD} {xs : List Value} {X vb cb pb : Nat} {vg vh vf hv : Value}
theorem WoR.sig {pl : List (ByteArray × Int)} (h : WoR w B u vs cs pl hd xs X vb cb pb vg vh vf hv) (s : ByteArray) :
  (getM s cs = none ∧ ∀ w', Below w.heap.size w w' → (Instr.lookup 89 (.map (some cb)) (.string s) true).run Tryz.prog w' = .ok (.tuple #[.agg #[.slice none 0 0, .int .u8 0, .int .i64 0, .int .i64 0], .bool false]) w') ∨
  ∃ g ka kc, getM s cs = some g ∧ SlP (onlyW w (oldB B)) g.params (.slice ka g.params.length kc) ∧ ∀ w', Below w.heap.size w w' → (Instr.lookup 89 (.map (some cb)) (.string s) true).run Tryz.prog w' = .ok (.tuple #[.agg #[.slice ka g.params.length kc, .int .u8 g.type, .int .i64 g.host, .int .i64 g.fn], .bool true]) w' := by
 obtain ⟨l, h2, h3⟩ := h.nm.calls
 have hm := map_whole h2 (by simpa using h.lc)
 rcases h3.get s with ⟨e1, e2⟩ | ⟨g', v, e1, e2, pv, rfl, h5⟩
 ·refine .inl ⟨e1, fun w' hb => ?_⟩
  have hl := (hm.mono hb).lookup under89 under9 s _ (zero114 w') true
  rw [e2] at hl
  simpa using hl
 ·have h6 := h5
  obtain ⟨ka, kb, koff, kc, rfl, -⟩ := h6
  refine .inr ⟨g', ka, kc, e1, h5, fun w' hb => ?_⟩
  have hl := (hm.mono hb).lookup under89 under9 s _ (zero114 w') true
  rw [e2] at hl
  simpa using hl
theorem call_end {al d : Nat} {vv : Value} {w10 w1 w2 w' w'' : World} {m : MS} {ve : EvS} (h : WoR w B u vs cs (plG u.gs 0 []) hd xs X vb cb pb vg vh vf hv) (hb : Below w.heap.size w w10)
  (hM : MeR (ptC w.heap.size B X vb cb pb vg vh vf hv vv xs hd) al (w.heap.size + 5) d m ve w1) (hK : Kpt ((ptC w.heap.size B X vb cb pb vg vh vf hv vv xs hd).TE ⟨.slice none 0 0, []⟩) w10.heap.size w10 w1) (hb2 : Below w1.heap.size w1 w2)
  (hg : w2.grownBy w' (some (w.heap.size + 2))) (hg2 : w'.grownBy w'' (some w.heap.size)) {c1 : Array Value} (hx : Bx w' w.heap.size c1 56) (hp : ∀ q ∈ m.held, 0 < q.length) :
  WoR w'' B u vs cs (plG u.gs 0 []) (hdOf hd m.held) xs X vb cb pb vg vh vf hv ∧ Kpt (own52 xs) w.heap.size w w'' ∧ ∃ ats, EvR w'' w.heap.size m.evs ve.vas ats ve.v := by
 have hs10 := hb.size
 have k1 : Kpt (own52 xs) w.heap.size w w1 := (Kpt.of hb).trans (hK.mono hs10 fun b hb2 hT => by
  rcases hT with (q | q) | q
  ·have q : b = w.heap.size + 2 := q
   omega
  ·exact q
  ·cases q)
 have k2 : Kpt (own52 xs) w.heap.size w w2 := k1.trans (Kpt.of (hb2.mono k1.size))
 have k3 : Kpt (own52 xs) w.heap.size w w' := k2.trans (Kpt.gr hg k2.size fun k e => by cases e; exact .inr (by omega))
 have k4 : Kpt (own52 xs) w.heap.size w w'' := k3.trans (Kpt.gr hg2 k3.size fun k e => by cases e; exact .inr (Nat.le_refl _))
 have M2 := hM.below hb2
 obtain ⟨en, va, fa, hx2⟩ := M2.box
 have nr : ∀ {base : Nat} {e : TypeId} {size k : Nat} {v : Value} {ys : List Value}, w2.ownsRow base e size v k ys → (119 : TypeId) ≠ e → (56 : TypeId) ≠ e → w''.ownsRow base e size v k ys := fun {base e size k v ys} hr h1 h2 => by
  have r1 := hr.kept hg (.inr fun q => hx2.not_row hr h1 q.symm)
  exact r1.kept hg2 (.inr fun q => hx.not_row r1 h2 q.symm)
 have hlen : m.held.length = hd.length := by have h1 := M2.len; have h2 := h.held.len; exact h1.symm.trans h2
 refine ⟨h.move k4 hlen (fun i h1 h2 => nr (M2.words i h1 h2) (by decide) (by decide)) hp, k4, ?_⟩
 obtain ⟨ats, he⟩ := M2.evs
 exact ⟨ats, he.len, he.at_, own_weaken (nr he.row (by decide) (by decide)) (by omega), fun i h1 h2 => own_weaken (nr (he.args i h1 h2) (by decide) (by decide)) (by omega)⟩
def PCall (B : Nat) (u : UT) (vs : VS) (cs : CSg) (hd : HD) (xs : List Value) (X vb cb pb : Nat) (vg vh vf hv : Value) (o : Out Int) (w : World) (e : Ending) (w' : World) : Prop :=
 ∃ (m : MS) (en v fa : Int) (ve : EvS), ((o = .ok v m ∧ en = 1 ∧ fa = 0) ∨ (o = .stop en fa m ∧ v = 0)) ∧ e = .returned (.tuple #[.agg #[.int .u8 en, .int .u32 v, .int .u8 fa, .int .i64 m.steps, .int .i64 m.reps, ve.v], .int .i64 0]) ∧
  WoR w' B u vs cs (plG u.gs 0 []) (hdOf hd m.held) xs X vb cb pb vg vh vf hv ∧ Kpt (own52 xs) w.heap.size w w' ∧ (∃ ats, EvR w' w.heap.size m.evs ve.vas ats ve.v) ∧ HdOk u (hdOf hd m.held)
theorem call17_call (h : WoR w B u vs cs (plG u.gs 0 []) hd xs X vb cb pb vg vh vf hv) (wf : u.Wf) (hs : senseU u = 0) (hg : gatU u = some (vs, cs)) (ho : HdOk u hd) {s : ByteArray} {g : Sig} {args : List Int} {va : Value} {al : Nat} {values : List Int} {vv : Value} {k : Nat}
  (hq : getM s cs = some g) (hh : g.host < 0) (hl : args.length = g.params.length) (hU : ∀ x ∈ args, U x) (hra : RowA w args va) (ha : al ≤ 65536) (hvU : ∀ x ∈ values, U x) (hv0 : ValR w w.heap.size (own52 xs) values vv) (hvl : values.length ≤ 1000000000)
  (hnl : (evl (cfU u vs cs al values) k).F 0 g args ⟨hd.map (·.2), 0, 0, []⟩ ≠ .lost) :
  Calls Tryz.prog 17 #[.pointer (some ⟨X, 0, none⟩), .string s, va, .int .i64 al, vv] w (PCall B u vs cs hd xs X vb cb pb vg vh vf hv ((evl (cfU u vs cs al values) k).F 0 g args ⟨hd.map (·.2), 0, 0, []⟩) w) := by
 rcases h.sig s with ⟨e1, -⟩ | ⟨g', ka, kc, e1, hsp, hlk⟩
 ·rw [hq] at e1; cases e1
 rw [hq] at e1
 cases e1
 obtain ⟨aa, ab, ao, ac, rfl, ra2, ra3⟩ := hra
 have hv9 := hv0
 obtain ⟨ka9, _, _, kc9, rfl, -⟩ := hv9
 have hcf := cfU_ok (allowed := al) (values := values) wf hs hg ha hvU
 obtain ⟨p, hp⟩ : ∃ p, p = ptC w.heap.size B X vb cb pb vg vh vf hv (.slice ka9 values.length kc9) xs hd := ⟨_, rfl⟩
 obtain ⟨o, ho2⟩ : ∃ o, o = (evl (cfU u vs cs al values) k).F 0 g args ⟨hd.map (·.2), 0, 0, []⟩ := ⟨_, rfl⟩
 have hX := h.box.lt
 have hinv : Inv (cfU u vs cs al values) ((hd.map (·.2)).map List.length) ⟨hd.map (·.2), 0, 0, []⟩ := ⟨Nat.zero_le _, Nat.zero_le _, rfl, rfl⟩
 have hrg : MS.Rg ⟨hd.map (·.2), 0, 0, []⟩ := ho.rg
 have hkeep := (evl_keeps (cfU u vs cs al values) ((hd.map (·.2)).map List.length) k).F 0 g args _ hinv
 have hkrg := (evl_rg hcf.rg k).F 0 g args _ hU hrg
 rw [← ho2] at hnl hkeep hkrg ⊢
 have hfin : ∀ m, (Inv (cfU u vs cs al values) ((hd.map (·.2)).map List.length) m) → m.Rg → HdOk u (hdOf hd m.held) ∧ ∀ q ∈ m.held, 0 < q.length := fun m h1 h2 => by
  have hk := ho.of h1.shape h2
  refine ⟨hk, fun q hq => ?_⟩
  have hn : m.held.length = hd.length := by have := congrArg List.length h1.shape; simpa using this
  have := hk.pos wf hs q (by rw [hdOf_held hd m.held hn]; exact hq)
  exact this.1
 have ln : (args.length : Int) = (g.params.length : Int) := by omega
 rw [hl]
 refine call17_good X pb cb s ka g.params.length kc g.type g.host g.fn aa ac al ka9 values.length kc9 w
  (fun e w' => ∃ w9 e0 w1, F9 w.heap.size X al (.slice ka9 values.length kc9) ka g.params.length kc g.type g.host g.fn w w9 ∧ e = .returned (.tuple #[]) ∧
   PostM p al (w.heap.size + 5) 0 ((w9.alloc (.cells #[.pointer (some ⟨w.heap.size + 2, 0, none⟩)] 116)).alloc (.cells #[.slice ka g.params.length kc, .int .u8 g.type, .int .i64 g.host, .int .i64 g.fn] 114)).heap.size ⟨.slice none 0 0, []⟩ (fun x => .returned (.int .u32 x)) o ((w9.alloc (.cells #[.pointer (some ⟨w.heap.size + 2, 0, none⟩)] 116)).alloc (.cells #[.slice ka g.params.length kc, .int .u8 g.type, .int .i64 g.host, .int .i64 g.fn] 114)) e0 w1 ∧
   ((∃ v w2, e0 = .returned (.int .u32 v) ∧ Below w1.heap.size w1 w2 ∧ w' = (w2.setCell ⟨w.heap.size + 2, 3, none⟩ (.int .u8 1)).setCell ⟨w.heap.size + 2, 4, none⟩ (.int .u32 v)) ∨
    ∃ x y w2, e0 = endE x y ∧ Below w1.heap.size w1 w2 ∧ w' = (w2.setCell ⟨w.heap.size + 2, 3, none⟩ (.int .u8 x)).setCell ⟨w.heap.size + 2, 5, none⟩ (.int .u8 y)))
  _ hX (by simpa using h.box.cell 6) (by simpa using h.box.cell 4) hh (by omega) (by omega) (hlk _ (by (repeat (first | exact Below.refl _ _ | refine Below.drew ?_ | refine Below.alloc ?_ (by simp <;> omega) _)))) (hid fun w9 h9 => ?_) (hid fun e w' hr => ?_)
 ·obtain ⟨w10, hw10⟩ : ∃ x, x = (w9.alloc (.cells #[.pointer (some ⟨w.heap.size + 2, 0, none⟩)] 116)).alloc (.cells #[.slice ka g.params.length kc, .int .u8 g.type, .int .i64 g.host, .int .i64 g.fn] 114) := ⟨_, rfl⟩
  have b10 : Below w9.heap.size w9 w10 := by rw [hw10]; (repeat (first | exact Below.refl _ _ | refine Below.drew ?_ | refine Below.alloc ?_ (by simp <;> omega) _))
  have hb10 := h9.below.trans (b10.mono h9.below.size)
  have hst := call_start (w' := w10) h hg ho (allowed := al) hv0 hvl hb10 (h9.box.on (grown_of_below b10) (by simp)) (h9.kc.on (grown_of_below b10) (by simp)) (by obtain ⟨es, c, q1, q2⟩ := h9.kinds; exact ⟨es, c, (b10.block _ (lt_of_block q1)).trans q1, q2⟩) (by have := h9.size; have := b10.size; omega)
  have hF := fn_walk p (cfU u vs cs al values) u (w.heap.size + 5) ((hd.map (·.2)).map List.length) hcf k 0 ⟨hd.map (·.2), 0, 0, []⟩ ⟨.slice none 0 0, []⟩ s g args (.slice aa g.params.length ac) ka kc w10 hq hh hl hU ⟨aa, ab, ao, ac, by rw [hl], ra2, fun i hi => cell_on (ra3 i hi) hb10⟩
   (by rw [hp]; exact hsp.sub (cells_move fun a u h1 h2 => ⟨h1, cell_on h2 hb10⟩)) (by rw [hp]; exact hst.1) (by rw [hp]; exact hst.2) (ho.pos wf hs) hinv hrg (by rw [← ho2]; exact hnl)
  rw [← ho2] at hF
  have hpM : p.M = w.heap.size + 2 := by rw [hp]; rfl
  have hM0 : MeR p al (w.heap.size + 5) 0 ⟨hd.map (·.2), 0, 0, []⟩ ⟨.slice none 0 0, []⟩ w10 := by rw [hp]; exact hst.2
  have bc : Bx w10 w9.heap.size #[.pointer (some ⟨w.heap.size + 2, 0, none⟩)] 116 := by rw [hw10]; exact (Bx.new w9 _ 116).al _
  rw [hpM] at hF
  rw [hw10] at hF
  refine (run43 (w.heap.size + 2) ka g.params.length kc g.type g.host g.fn (.slice aa g.params.length ac) w9 _ (hid hF) (hid fun e w' hr => ?_)).mono fun e w' hq => ?_
  ·rw [← hw10] at hr
   cases o with
   | lost => exact absurd rfl hnl
   | ok v m =>
    obtain ⟨rfl, ve', hM, hK, -⟩ := hr
    refine ⟨hK.box bc bc.lt (hM0.notBox bc (by decide) (by decide) (by decide)), ?_, .inl ⟨v, rfl⟩⟩
    obtain ⟨en, va, fa, hx⟩ := hM.box
    rw [hpM] at hx
    exact ⟨_, _, _, _, _, _, _, _, _, _, _, hx⟩
   | stop x y m =>
    obtain ⟨rfl, ve', d', hM, hK, -⟩ := hr
    refine ⟨hK.box bc bc.lt (hM0.notBox bc (by decide) (by decide) (by decide)), ?_, .inr ⟨x, y, rfl⟩⟩
    obtain ⟨en, va, fa, hx⟩ := hM.box
    rw [hpM] at hx
    exact ⟨_, _, _, _, _, _, _, _, _, _, _, hx⟩
  ·obtain ⟨h1, e0, w1, h2, h3⟩ := hq
   exact ⟨w9, e0, w1, h9, h1, h2, h3⟩
 ·obtain ⟨w9, e0, w1, h9, rfl, hpm, hor⟩ := hr
  refine ⟨rfl, ?_⟩
  obtain ⟨w10, hw10⟩ : ∃ x, x = (w9.alloc (.cells #[.pointer (some ⟨w.heap.size + 2, 0, none⟩)] 116)).alloc (.cells #[.slice ka g.params.length kc, .int .u8 g.type, .int .i64 g.host, .int .i64 g.fn] 114) := ⟨_, rfl⟩
  rw [← hw10] at hpm
  have b10 : Below w9.heap.size w9 w10 := by rw [hw10]; (repeat (first | exact Below.refl _ _ | refine Below.drew ?_ | refine Below.alloc ?_ (by simp <;> omega) _))
  have hb10 := h9.below.trans (b10.mono h9.below.size)
  have hst := call_start (w' := w10) h hg ho (allowed := al) hv0 hvl hb10 (h9.box.on (grown_of_below b10) (by simp)) (h9.kc.on (grown_of_below b10) (by simp)) (by obtain ⟨es, c, q1, q2⟩ := h9.kinds; exact ⟨es, c, (b10.block _ (lt_of_block q1)).trans q1, q2⟩) (by have := h9.size; have := b10.size; omega)
  have hO := h9.out.on (grown_of_below b10) (by simp)
  have nO := hst.2.notBox hO (by decide) (by decide) (by decide)
  subst hp
  cases o with
  | lost => exact absurd rfl hnl
  | ok v m =>
   obtain ⟨rfl, ve', hM, hK, -⟩ := hpm
   rcases hor with ⟨v', w2, hv', hb2, rfl⟩ | ⟨x, y, w2, hv', -, -⟩
   ·cases hv'
    have hO1 := (hK.box hO hO.lt nO).on (grown_of_below hb2) (by simp)
    obtain ⟨en, va, fa, hx⟩ := (hM.below hb2).box
    obtain ⟨ats9, he9⟩ := hM.evs
    obtain ⟨ea, ec, hev, -⟩ := own_shape2 he9.row
    rw [hev] at hx
    have hgt := grownTwo w2 (w.heap.size + 2) 3 4 (.int .u8 1) (.int .u32 v)
    have hO2 := hO1.on hgt (by simp)
    obtain ⟨f1, f2⟩ := hfin m hkeep hkrg.2
    refine ⟨_, _, _, _, _, _, _, _, _, _, _, _, _, (hx.set 3 (.int .u8 1)).set 4 (.int .u32 v), hO2, fun w'' hg2 => ?_⟩
    obtain ⟨r1, r2, r3⟩ := call_end h hb10 hM hK hb2 hgt hg2 hO2 f2
    exact ⟨m, 1, v, 0, ve', .inl ⟨rfl, rfl, rfl⟩, by rw [hev]; rfl, r1, r2, r3, f1⟩
   ·cases hv'
  | stop x y m =>
   obtain ⟨rfl, ve', d', hM, hK, -⟩ := hpm
   rcases hor with ⟨v', w2, hv', hb2, rfl⟩ | ⟨x', y', w2, hv', hb2, rfl⟩
   ·cases hv'
   ·have hxy : x = x' ∧ y = y' := by simpa [endE] using hv'
    obtain ⟨rfl, rfl⟩ := hxy
    have hO1 := (hK.box hO hO.lt nO).on (grown_of_below hb2) (by simp)
    obtain ⟨en, va, fa, hx⟩ := (hM.below hb2).box
    obtain ⟨ats9, he9⟩ := hM.evs
    obtain ⟨ea, ec, hev, -⟩ := own_shape2 he9.row
    rw [hev] at hx
    have hgt := grownTwo w2 (w.heap.size + 2) 3 5 (.int .u8 x) (.int .u8 y)
    have hO2 := hO1.on hgt (by simp)
    obtain ⟨f1, f2⟩ := hfin m hkeep.1 hkrg
    refine ⟨_, _, _, _, _, _, _, _, _, _, _, _, _, (hx.set 3 (.int .u8 x)).set 5 (.int .u8 y), hO2, fun w'' hg2 => ?_⟩
    obtain ⟨r1, r2, r3⟩ := call_end h hb10 hM hK hb2 hgt hg2 hO2 f2
    exact ⟨m, x, 0, y, ve', .inr ⟨rfl, rfl⟩, by rw [hev]; rfl, r1, r2, r3, f1⟩
end
end
section
open Go.Shelf
def u7 : UT := ⟨[], [], [⟨0, ⟨#[102]⟩, [], 1, false, .cons ⟨0, 8, ⟨#[]⟩, 0, ⟨#[]⟩⟩ (.cons ⟨0, 1, 7, 0, ⟨#[]⟩, ⟨#[]⟩⟩ .nil .nil) .nil .nil .nil⟩]⟩
theorem Bx.al0 {w : World} {q : Nat} {cs : Array Value} {t : TypeId} (h : Bx w q cs t) (o : Obj) : Bx (w.alloc o) q cs t := h.on (grown_of_below (by (repeat (first | exact Below.refl _ _ | refine Below.drew ?_ | refine Below.alloc ?_ (by simp <;> omega) _)))) (by simp)
theorem u7_in {w : World} {n1 n3 n4 : Nat} {t1 t3 t4 : TypeId}
  (h1 : Bx w n1 #[.int .i64 0, .int .u8 1, .int .u32 7, .int .u8 0, .string ⟨#[]⟩, .string ⟨#[]⟩, .slice none 0 0] t1)
  (h3 : Bx w n3 #[.int .i64 0, .int .u8 8, .string ⟨#[]⟩, .int .u8 0, .string ⟨#[]⟩, .slice (some ⟨n1, 0, none⟩) 1 1, .slice none 0 0, .slice none 0 0] t3)
  (h4 : Bx w n4 #[.int .i64 0, .string ⟨#[102]⟩, .slice none 0 0, .int .u8 1, .bool false, .slice (some ⟨n3, 0, none⟩) 1 1] t4) :
  UIn w false none u7 (.agg #[.slice none 0 0, .slice none 0 0, .slice (some ⟨n4, 0, none⟩) 1 1]) := by
 have e0 : SlE w false none .nil (.slice none 0 0) := ⟨none, 0, 0, 0, rfl, .inl ⟨rfl, rfl⟩, trivial⟩
 have s0 : SlS w false none .nil (.slice none 0 0) := ⟨none, 0, 0, 0, rfl, .inl ⟨rfl, rfl⟩, trivial⟩
 have p0 : SlPz w none [] (.slice none 0 0) := ⟨none, 0, 0, 0, rfl, .inl ⟨rfl, rfl⟩, fun i hi => by simp at hi⟩
 have e1 : SlE w false none (.cons ⟨0, 1, 7, 0, ⟨#[]⟩, ⟨#[]⟩⟩ .nil .nil) (.slice (some ⟨n1, 0, none⟩) 1 1) :=
  ⟨_, n1, 0, 1, rfl, .inr ⟨rfl, Zone.any⟩, ExsIn.mk ⟨⟨0, by simpa using h1.cell 0, fun q => by cases q⟩, by simpa using h1.cell 1, by simpa using h1.cell 2, by simpa using h1.cell 3, by simpa using h1.cell 4, by simpa using h1.cell 5⟩ (by simpa using h1.cell 6) e0 trivial⟩
 have s1 : SlS w false none (.cons ⟨0, 8, ⟨#[]⟩, 0, ⟨#[]⟩⟩ (.cons ⟨0, 1, 7, 0, ⟨#[]⟩, ⟨#[]⟩⟩ .nil .nil) .nil .nil .nil) (.slice (some ⟨n3, 0, none⟩) 1 1) :=
  ⟨_, n3, 0, 1, rfl, .inr ⟨rfl, Zone.any⟩, StsIn.mk ⟨⟨0, by simpa using h3.cell 0, fun q => by cases q⟩, by simpa using h3.cell 1, by simpa using h3.cell 2, by simpa using h3.cell 3, by simpa using h3.cell 4⟩ (by simpa using h3.cell 5) e1 (by simpa using h3.cell 6) s0 (by simpa using h3.cell 7) s0 trivial⟩
 refine ⟨_, _, _, rfl, ⟨none, 0, 0, 0, rfl, .inl ⟨rfl, rfl⟩, fun i hi => by simp [u7] at hi⟩, ⟨none, 0, 0, 0, rfl, .inl ⟨rfl, rfl⟩, fun i hi => by simp [u7] at hi⟩, ⟨_, n4, 0, 1, rfl, .inr ⟨rfl, Zone.any⟩, fun i hi => ?_⟩⟩
 obtain rfl : i = 0 := by simp [u7] at hi; omega
 exact ⟨⟨0, by simpa using h4.cell 0, fun q => by cases q⟩, by simpa [u7] using h4.cell 1, ⟨_, by simpa using h4.cell 2, p0⟩, by simpa [u7] using h4.cell 3, by simpa [u7] using h4.cell 4, ⟨_, by simpa using h4.cell 5, s1⟩⟩
theorem seven32 (w : World) : Calls Tryz.prog 32 #[] w fun e w' => ∃ v, e = .returned v ∧ UIn w' false none u7 v ∧ Below w.heap.size w w' := by
 go_enter Tryz.func32, Tryz.ntmps32
 go_wp2_with fail
 have h0 : Bx (((((w.alloc (.cells #[.slice none 0 0, .slice none 0 0, .slice (some ⟨w.heap.size + 1 + 1 + 1 + 1, 0, none⟩) 1 1] 26)).alloc (.cells #[.int .i64 0, .int .u8 1, .int .u32 7, .int .u8 0, .string ⟨#[]⟩, .string ⟨#[]⟩, .slice none 0 0] 134)).alloc (.cells #[.int .i64 0, .int .u8 8, .string ⟨#[]⟩, .int .u8 0, .string ⟨#[]⟩, .slice (some ⟨w.heap.size + 1, 0, none⟩) 1 1, .slice none 0 0, .slice none 0 0] 109)).alloc (.cells #[.int .i64 0, .int .u8 8, .string ⟨#[]⟩, .int .u8 0, .string ⟨#[]⟩, .slice (some ⟨w.heap.size + 1, 0, none⟩) 1 1, .slice none 0 0, .slice none 0 0] 109)).alloc (.cells #[.int .i64 0, .string ⟨#[102]⟩, .slice none 0 0, .int .u8 1, .bool false, .slice (some ⟨w.heap.size + 1 + 1 + 1, 0, none⟩) 1 1] 43)) w.heap.size #[.slice none 0 0, .slice none 0 0, .slice (some ⟨w.heap.size + 1 + 1 + 1 + 1, 0, none⟩) 1 1] 26 := ((((Bx.new w _ 26).al0 _).al0 _).al0 _).al0 _
 have h1 : Bx (((((w.alloc (.cells #[.slice none 0 0, .slice none 0 0, .slice (some ⟨w.heap.size + 1 + 1 + 1 + 1, 0, none⟩) 1 1] 26)).alloc (.cells #[.int .i64 0, .int .u8 1, .int .u32 7, .int .u8 0, .string ⟨#[]⟩, .string ⟨#[]⟩, .slice none 0 0] 134)).alloc (.cells #[.int .i64 0, .int .u8 8, .string ⟨#[]⟩, .int .u8 0, .string ⟨#[]⟩, .slice (some ⟨w.heap.size + 1, 0, none⟩) 1 1, .slice none 0 0, .slice none 0 0] 109)).alloc (.cells #[.int .i64 0, .int .u8 8, .string ⟨#[]⟩, .int .u8 0, .string ⟨#[]⟩, .slice (some ⟨w.heap.size + 1, 0, none⟩) 1 1, .slice none 0 0, .slice none 0 0] 109)).alloc (.cells #[.int .i64 0, .string ⟨#[102]⟩, .slice none 0 0, .int .u8 1, .bool false, .slice (some ⟨w.heap.size + 1 + 1 + 1, 0, none⟩) 1 1] 43)) (w.heap.size + 1) #[.int .i64 0, .int .u8 1, .int .u32 7, .int .u8 0, .string ⟨#[]⟩, .string ⟨#[]⟩, .slice none 0 0] 134 := by simpa using (((Bx.new (w.alloc (.cells #[.slice none 0 0, .slice none 0 0, .slice (some ⟨w.heap.size + 1 + 1 + 1 + 1, 0, none⟩) 1 1] 26)) #[.int .i64 0, .int .u8 1, .int .u32 7, .int .u8 0, .string ⟨#[]⟩, .string ⟨#[]⟩, .slice none 0 0] 134).al0 _).al0 _).al0 _
 have h3 : Bx (((((w.alloc (.cells #[.slice none 0 0, .slice none 0 0, .slice (some ⟨w.heap.size + 1 + 1 + 1 + 1, 0, none⟩) 1 1] 26)).alloc (.cells #[.int .i64 0, .int .u8 1, .int .u32 7, .int .u8 0, .string ⟨#[]⟩, .string ⟨#[]⟩, .slice none 0 0] 134)).alloc (.cells #[.int .i64 0, .int .u8 8, .string ⟨#[]⟩, .int .u8 0, .string ⟨#[]⟩, .slice (some ⟨w.heap.size + 1, 0, none⟩) 1 1, .slice none 0 0, .slice none 0 0] 109)).alloc (.cells #[.int .i64 0, .int .u8 8, .string ⟨#[]⟩, .int .u8 0, .string ⟨#[]⟩, .slice (some ⟨w.heap.size + 1, 0, none⟩) 1 1, .slice none 0 0, .slice none 0 0] 109)).alloc (.cells #[.int .i64 0, .string ⟨#[102]⟩, .slice none 0 0, .int .u8 1, .bool false, .slice (some ⟨w.heap.size + 1 + 1 + 1, 0, none⟩) 1 1] 43)) (w.heap.size + 1 + 1 + 1) #[.int .i64 0, .int .u8 8, .string ⟨#[]⟩, .int .u8 0, .string ⟨#[]⟩, .slice (some ⟨w.heap.size + 1, 0, none⟩) 1 1, .slice none 0 0, .slice none 0 0] 109 := by simpa using (Bx.new (((w.alloc (.cells #[.slice none 0 0, .slice none 0 0, .slice (some ⟨w.heap.size + 1 + 1 + 1 + 1, 0, none⟩) 1 1] 26)).alloc (.cells #[.int .i64 0, .int .u8 1, .int .u32 7, .int .u8 0, .string ⟨#[]⟩, .string ⟨#[]⟩, .slice none 0 0] 134)).alloc (.cells #[.int .i64 0, .int .u8 8, .string ⟨#[]⟩, .int .u8 0, .string ⟨#[]⟩, .slice (some ⟨w.heap.size + 1, 0, none⟩) 1 1, .slice none 0 0, .slice none 0 0] 109)) #[.int .i64 0, .int .u8 8, .string ⟨#[]⟩, .int .u8 0, .string ⟨#[]⟩, .slice (some ⟨w.heap.size + 1, 0, none⟩) 1 1, .slice none 0 0, .slice none 0 0] 109).al0 _
 have h4 : Bx (((((w.alloc (.cells #[.slice none 0 0, .slice none 0 0, .slice (some ⟨w.heap.size + 1 + 1 + 1 + 1, 0, none⟩) 1 1] 26)).alloc (.cells #[.int .i64 0, .int .u8 1, .int .u32 7, .int .u8 0, .string ⟨#[]⟩, .string ⟨#[]⟩, .slice none 0 0] 134)).alloc (.cells #[.int .i64 0, .int .u8 8, .string ⟨#[]⟩, .int .u8 0, .string ⟨#[]⟩, .slice (some ⟨w.heap.size + 1, 0, none⟩) 1 1, .slice none 0 0, .slice none 0 0] 109)).alloc (.cells #[.int .i64 0, .int .u8 8, .string ⟨#[]⟩, .int .u8 0, .string ⟨#[]⟩, .slice (some ⟨w.heap.size + 1, 0, none⟩) 1 1, .slice none 0 0, .slice none 0 0] 109)).alloc (.cells #[.int .i64 0, .string ⟨#[102]⟩, .slice none 0 0, .int .u8 1, .bool false, .slice (some ⟨w.heap.size + 1 + 1 + 1, 0, none⟩) 1 1] 43)) (w.heap.size + 1 + 1 + 1 + 1) #[.int .i64 0, .string ⟨#[102]⟩, .slice none 0 0, .int .u8 1, .bool false, .slice (some ⟨w.heap.size + 1 + 1 + 1, 0, none⟩) 1 1] 43 := by simpa using Bx.new ((((w.alloc (.cells #[.slice none 0 0, .slice none 0 0, .slice (some ⟨w.heap.size + 1 + 1 + 1 + 1, 0, none⟩) 1 1] 26)).alloc (.cells #[.int .i64 0, .int .u8 1, .int .u32 7, .int .u8 0, .string ⟨#[]⟩, .string ⟨#[]⟩, .slice none 0 0] 134)).alloc (.cells #[.int .i64 0, .int .u8 8, .string ⟨#[]⟩, .int .u8 0, .string ⟨#[]⟩, .slice (some ⟨w.heap.size + 1, 0, none⟩) 1 1, .slice none 0 0, .slice none 0 0] 109)).alloc (.cells #[.int .i64 0, .int .u8 8, .string ⟨#[]⟩, .int .u8 0, .string ⟨#[]⟩, .slice (some ⟨w.heap.size + 1, 0, none⟩) 1 1, .slice none 0 0, .slice none 0 0] 109)) #[.int .i64 0, .string ⟨#[102]⟩, .slice none 0 0, .int .u8 1, .bool false, .slice (some ⟨w.heap.size + 1 + 1 + 1, 0, none⟩) 1 1] 43
 refine bodyPost_ret (v := .agg #[.slice none 0 0, .slice none 0 0, .slice (some ⟨w.heap.size + 1 + 1 + 1 + 1, 0, none⟩) 1 1]) (results_cell_row rfl _ _ w.heap.size _ _ _ _ rfl h0 Tryz.underlying26 rfl (by kernel_rfl)) rfl ?_
 exact ⟨_, rfl, u7_in h1 h3 h4, by (repeat (first | exact Below.refl _ _ | refine Below.drew ?_ | refine Below.alloc ?_ (by simp <;> omega) _))⟩
end
section
open Go.Shelf
theorem u7_ok : u7.Ok := by
 constructor <;> simp [u7, Sts.sz, Exs.sz]
theorem u7_sense : senseU u7 = 0 := by kernel_rfl
theorem u7_names : ∃ vs cs, gatU u7 = some (vs, cs) ∧ getM ⟨#[102]⟩ cs = some ⟨[], 1, -1, 0⟩ := ⟨[], [(⟨#[102]⟩, ⟨[], 1, -1, 0⟩)], by kernel_rfl, by kernel_rfl⟩
theorem u7_wf : u7.Wf := by
 constructor
 all_goals simp [u7, Sts.Wf, Exs.Wf, EH.Wf, SH.Wf]
 all_goals decide
theorem u7_nine (vs : VS) (cs : CSg) : (evl (cfU u7 vs cs 9 []) 6).F 0 ⟨[], 1, -1, 0⟩ [] ⟨[], 0, 0, []⟩ = .ok 7 ⟨[], 2, 0, []⟩ := by rfl
theorem u7_one (vs : VS) (cs : CSg) : (evl (cfU u7 vs cs 1 []) 6).F 0 ⟨[], 1, -1, 0⟩ [] ⟨[], 0, 0, []⟩ = .stop 3 0 ⟨[], 1, 0, []⟩ := by rfl
end
section
open Go.Shelf
theorem call_u7 {w : World} {B : Nat} {vs : VS} {cs : CSg} {xs : List Value} {X vb cb pb : Nat} {vg vh vf hv : Value} {al : Nat} {o : Out Int} (ho : (evl (cfU u7 vs cs al []) 6).F 0 ⟨[], 1, -1, 0⟩ [] ⟨[], 0, 0, []⟩ = o) (hnl : o ≠ .lost)
  (h : WoR w B u7 vs cs (plG u7.gs 0 []) [] xs X vb cb pb vg vh vf hv) (hg : gatU u7 = some (vs, cs)) (hq : getM ⟨#[102]⟩ cs = some ⟨[], 1, -1, 0⟩) (ha : al ≤ 65536) :
  Calls Tryz.prog 17 #[.pointer (some ⟨X, 0, none⟩), .string ⟨#[102]⟩, .slice none 0 0, .int .i64 al, .slice none 0 0] w (PCall B u7 vs cs [] xs X vb cb pb vg vh vf hv o w) := by
 subst ho
 have hk : HdOk u7 [] := HdOk.init u7_wf u7_sense
 have hra : RowA w [] (.slice none 0 0) := ⟨none, 0, 0, 0, rfl, .inl rfl, fun i h => by simp at h⟩
 exact call17_call (k := 6) h u7_wf u7_sense hg hk hq (by decide) rfl (by simp) hra ha (by simp) (ValR.nil _ _ _) (by simp) hnl
theorem seven_nine {w : World} {B : Nat} {vs : VS} {cs : CSg} {xs : List Value} {X vb cb pb : Nat} {vg vh vf hv : Value} (h : WoR w B u7 vs cs (plG u7.gs 0 []) [] xs X vb cb pb vg vh vf hv) (hg : gatU u7 = some (vs, cs)) (hq : getM ⟨#[102]⟩ cs = some ⟨[], 1, -1, 0⟩) :
  Calls Tryz.prog 17 #[.pointer (some ⟨X, 0, none⟩), .string ⟨#[102]⟩, .slice none 0 0, .int .i64 9, .slice none 0 0] w fun e w' => ∃ ea ec, e = .returned (.tuple #[.agg #[.int .u8 1, .int .u32 7, .int .u8 0, .int .i64 2, .int .i64 0, .slice ea 0 ec], .int .i64 0]) ∧
   WoR w' B u7 vs cs (plG u7.gs 0 []) [] xs X vb cb pb vg vh vf hv ∧ Kpt (own52 xs) w.heap.size w w' := by
 refine (call_u7 (al := 9) (u7_nine vs cs) (by intro q; cases q) h hg hq (by omega)).mono fun e w' hp => ?_
 obtain ⟨m, en, v, fa, ve, hor, rfl, hW, hK, ⟨ats, hE⟩, -⟩ := hp
 rcases hor with ⟨q, rfl, rfl⟩ | ⟨q, -⟩
 ·cases q
  obtain ⟨ea, ec, hev, -⟩ := own_shape2 hE.row
  exact ⟨ea, ec, by rw [hev]; rfl, hW, hK⟩
 ·cases q
theorem seven_one {w : World} {B : Nat} {vs : VS} {cs : CSg} {xs : List Value} {X vb cb pb : Nat} {vg vh vf hv : Value} (h : WoR w B u7 vs cs (plG u7.gs 0 []) [] xs X vb cb pb vg vh vf hv) (hg : gatU u7 = some (vs, cs)) (hq : getM ⟨#[102]⟩ cs = some ⟨[], 1, -1, 0⟩) :
  Calls Tryz.prog 17 #[.pointer (some ⟨X, 0, none⟩), .string ⟨#[102]⟩, .slice none 0 0, .int .i64 1, .slice none 0 0] w fun e w' => ∃ ea ec, e = .returned (.tuple #[.agg #[.int .u8 3, .int .u32 0, .int .u8 0, .int .i64 1, .int .i64 0, .slice ea 0 ec], .int .i64 0]) ∧
   WoR w' B u7 vs cs (plG u7.gs 0 []) [] xs X vb cb pb vg vh vf hv ∧ Kpt (own52 xs) w.heap.size w w' := by
 refine (call_u7 (al := 1) (u7_one vs cs) (by intro q; cases q) h hg hq (by omega)).mono fun e w' hp => ?_
 obtain ⟨m, en, v, fa, ve, hor, rfl, hW, hK, ⟨ats, hE⟩, -⟩ := hp
 rcases hor with ⟨q, -, -⟩ | ⟨q, rfl⟩
 ·cases q
 ·cases q
  obtain ⟨ea, ec, hev, -⟩ := own_shape2 hE.row
  exact ⟨ea, ec, by rw [hev]; rfl, hW, hK⟩
end
section
open Go.Shelf
theorem field34 (a b c : Int) (w : World) : (Instr.field 34 (.agg #[.int .i64 a, .int .i64 b, .int .i64 c]) 0).run Tryz.prog w = .ok (.int .i64 a) w := by kernel_rfl
theorem lives8 (w : World) : Calls Tryz.prog 8 #[] w fun e w' => e = .returned (.bool true) ∧ Below w.heap.size w w' := by
 have c1 := hid (seven32 w)
 go_enter Tryz.func8, Tryz.ntmps8
 go_wp2_with fail
 refine c1.out.mono ?_
 rintro e w1 ⟨v, rfl, hu, hb1⟩
 have B1 := hid hb1
 have c2 := hid (new16 u7 v w1 u7_ok u7_wf (hid (by simp [u7])) hu)
 clear c1 hu hb1
 go_wp2_with fail
 refine c2.out.mono ?_
 rintro e w2 ⟨hb2, ⟨hn, _⟩ | ⟨_, B, vs, cs, X, vb, cb, pb, vg, vh, vf, hv, xs, rfl, hg, hB, hX, hW⟩⟩
 ·exact absurd u7_sense hn
 have B2 := hid (B1.out.trans (hb2.mono B1.out.size))
 obtain ⟨vs', cs', g1, g2⟩ := u7_names
 rw [g1] at hg
 cases hg
 have G := hid (And.intro g1 g2)
 have HB := hid (show w.heap.size ≤ B by have := B1.out.size; omega)
 have W2 := hid hW
 have c3 := hid (seven32 w2)
 clear c2 hb2 hW g1 g2 hB hX
 go_wp2_with fail
 refine c3.out.mono ?_
 rintro e w3 ⟨v, rfl, hu, hb3⟩
 have B3 := hid (B2.out.trans (hb3.mono B2.out.size))
 have W3 := hid (W2.out.on hb3)
 have c4 := hid (check10 u7 v w3 u7_ok u7_wf (hid (by simp [u7])) hu)
 rw [u7_sense] at c4
 clear c3 hu hb3 W2
 go_wp2_with fail
 refine c4.out.mono ?_
 rintro e w4 ⟨⟨f, s, rfl⟩, hb4⟩
 have B4 := hid (B3.out.trans (hb4.mono B3.out.size))
 have W4 := hid (W3.out.on hb4)
 clear c4 hb4 W3
 have hfd := field34 0 f s w4
 have c5 := hid (seven_nine W4.out G.out.1 G.out.2)
 go_wp2_with fail
 refine c5.out.mono ?_
 rintro e w5 ⟨ea, ec, rfl, hW5, hK5⟩
 have B5 := hid (B4.out.trans (W4.out.far HB.out hK5))
 have B6 := hid (B5.out.alloc B5.out.size (.cells #[.int .u8 1, .int .u32 7, .int .u8 0, .int .i64 2, .int .i64 0, .slice ea 0 ec] 56))
 have W6 := hid (hW5.on ((Below.refl w5.heap.size w5).alloc (Nat.le_refl _) (.cells #[.int .u8 1, .int .u32 7, .int .u8 0, .int .i64 2, .int .i64 0, .slice ea 0 ec] 56)))
 have X6 := hid (Bx.new w5 #[.int .u8 1, .int .u32 7, .int .u8 0, .int .i64 2, .int .i64 0, .slice ea 0 ec] 56)
 have c6 := hid (seven_one W6.out G.out.1 G.out.2)
 clear c5 hW5 hK5
 go_wp2_with fail
 refine c6.out.mono ?_
 rintro e w7 ⟨ea2, ec2, rfl, hW7, hK7⟩
 have B7 := hid (B6.out.trans (W6.out.far HB.out hK7))
 have X7 := hid (show Bx w7 w5.heap.size #[.int .u8 1, .int .u32 7, .int .u8 0, .int .i64 2, .int .i64 0, .slice ea 0 ec] 56 from hK7.box X6.out (by simp) (fun ⟨x, hx, hq⟩ => (W6.out.held.box X6.out (by decide) (by decide)).2 x hx hq.symm))
 clear c6 hW7 hK7
 have X8 := X7.out.al (.cells #[.int .u8 3, .int .u32 0, .int .u8 0, .int .i64 1, .int .i64 0, .slice ea2 0 ec2] 56)
 have B8 := hid (B7.out.alloc B7.out.size (.cells #[.int .u8 3, .int .u32 0, .int .u8 0, .int .i64 1, .int .i64 0, .slice ea2 0 ec2] 56))
 have p0 := X8.cell 0
 have p1 := X8.cell 1
 have p3 := X8.cell 3
 simp at p0 p1 p3
 clear X8
 go_wp2_with fail
 go_ret
 exact ⟨rfl, B8.out⟩
end
section
def Rm {α : Type} : Out α → Out α → Prop
 | .ok a m, o => o = .ok a m ∨ o = .lost
 | .stop k x m, o => if k = 3 ∨ k = 4 then o.from m else o = .stop k x m ∨ o = .lost
 | .lost, _ => True
theorem Rm.stop_def {α : Type} (k x : Int) (m : MS) (o : Out α) : Rm (.stop k x m) o = (if k = 3 ∨ k = 4 then o.from m else o = .stop k x m ∨ o = .lost) := rfl
theorem Rm.refl {α : Type} (a : α) (m : MS) : Rm (.ok a m) (.ok a m) := .inl rfl
theorem Rm.stop {α : Type} (k x : Int) (m : MS) (h : ¬ (k = 3 ∨ k = 4)) : Rm (.stop k x m : Out α) (.stop k x m) := by
 rw [Rm.stop_def, if_neg h]
 exact .inl rfl
theorem Rm.lacks {α : Type} (k x : Int) (m : MS) (o : Out α) (h : k = 3 ∨ k = 4) (ho : o.from m) : Rm (.stop k x m : Out α) o := by
 rw [Rm.stop_def, if_pos h]
 exact ho
theorem Rm.any {α : Type} (o : Out α) : Rm o .lost := by
 cases o with
 | ok a m => exact .inr rfl
 | stop k x m =>
  rw [Rm.stop_def]
  by_cases h : k = 3 ∨ k = 4
  ·rw [if_pos h]; trivial
  ·rw [if_neg h]; exact .inr rfl
 | lost => trivial
theorem Out.from_le {α : Type} {m m' : MS} {o : Out α} (h : o.from m') (hm : MS.le m m') : o.from m := by
 cases o with
 | ok a m2 => exact MS.le_trans hm h
 | stop k x m2 => exact MS.le_trans hm h
 | lost => trivial
theorem Rm.bind {α β : Type} {o o' : Out α} {f f' : α → MS → Out β} (h : Rm o o') (hf : ∀ a m, Rm (f a m) (f' a m)) (hg : ∀ a m, (f' a m).from m) : Rm (o.bind f) (o'.bind f') := by
 cases o with
 | ok a m =>
  rcases h with rfl | rfl
  ·exact hf a m
  ·exact Rm.any _
 | stop k x m =>
  show Rm (.stop k x m) (o'.bind f')
  rw [Rm.stop_def] at h ⊢
  by_cases hk : k = 3 ∨ k = 4
  ·rw [if_pos hk] at h ⊢
   cases o' with
   | ok a m' => exact Out.from_le (hg a m') h
   | stop k' x' m' => exact h
   | lost => trivial
  ·rw [if_neg hk] at h ⊢
   rcases h with rfl | rfl
   ·exact .inl rfl
   ·exact .inr rfl
 | lost => trivial
structure Cf.More (cf cf' : Cf) : Prop where
 vs : cf'.vs = cf.vs
 cs : cf'.cs = cf.cs
 pl : cf'.pl = cf.pl
 hs : cf'.hs = cf.hs
 fs : cf'.fs = cf.fs
 alu : cf'.alu = cf.alu
 allowed : cf.allowed ≤ cf'.allowed
 values : ∃ l, cf'.values = cf.values ++ l
structure Evl.Rel (ev ev' : Evl) : Prop where
 E : ∀ d fr h k m, Rm (ev.E d fr h k m) (ev'.E d fr h k m)
 L : ∀ d fr l m, Rm (ev.L d fr l m) (ev'.L d fr l m)
 W : ∀ d fr h k b m, Rm (ev.W d fr h k b m) (ev'.W d fr h k b m)
 F : ∀ d g l m, Rm (ev.F d g l m) (ev'.F d g l m)
theorem evK_more {ev ev' : Evl} (hr : ev.Rel ev') (d : Nat) (fr : Fr) (l : Exs) (i : Nat) (m : MS) : Rm (evK ev d fr l i m) (evK ev' d fr l i m) := by
 unfold evK
 split
 ·exact hr.E _ _ _ _ _
 ·trivial
theorem evArgs_more {ev ev' : Evl} (hr : ev.Rel ev') (hg : ev'.Good) (d : Nat) (fr : Fr) : ∀ (l : Exs) (m : MS), Rm (evArgs ev d fr l m) (evArgs ev' d fr l m)
 | .nil, m => Rm.refl _ _
 | .cons h k r, m => Rm.bind (hr.E _ _ _ _ _) (fun v m1 => Rm.bind (evArgs_more hr hg d fr r m1) (fun l m2 => Rm.refl _ _) (fun _ _ => MS.le_refl _)) (fun v m1 => Out.from_bind (evArgs_from hg _ _ _ _) fun _ _ _ => MS.le_refl _)
theorem setV_more {cf cf' : Cf} {ev ev' : Evl} (hc : cf.More cf') (hr : ev.Rel ev') (d : Nat) (fr : Fr) (h : SH) (x : Exs) (m : MS) : Rm (setV cf ev d fr h x m) (setV cf' ev' d fr h x m) := by
 have e1 : ∀ m s, readV cf' fr m s = readV cf fr m s := fun m s => by unfold readV wordsAt placeOf typeV; rw [hc.vs, hc.pl]
 have e2 : ∀ m s v, writeV cf' fr m s v = writeV cf fr m s v := fun m s v => by unfold writeV putW wordsAt placeOf; rw [hc.pl]
 unfold setV
 refine Rm.bind (evK_more hr _ _ _ _ _) (fun v m1 => ?_) (fun v m1 => ?_)
 ·rw [e1, hc.alu, e2]
  split
  ·exact Rm.refl _ _
  ·split
   ·rw [e2]; exact Rm.refl _ _
   ·exact Rm.stop _ _ _ (by omega)
 ·split
  ·exact writeV_le _ _ _ _
  ·split
   ·exact writeV_le _ _ _ _
   ·exact MS.le_refl _
section
variable {cf cf' : Cf} {ev ev' : Evl} (hc : cf.More cf') (hr : ev.Rel ev') (hg : ev'.Good)
include hc
theorem tick_more (m : MS) : Rm (tick cf m) (tick cf' m) := by
 have h2 := tick_from cf' m
 unfold tick at h2 ⊢
 split
 ·exact Rm.lacks _ _ _ _ (.inl rfl) h2
 ·rw [if_neg (by have := hc.allowed; omega)]
  exact Rm.refl _ _
theorem hostV_more (g : Sig) (l : List Int) (m : MS) : Rm (hostV cf g l m) (hostV cf' g l m) := by
 obtain ⟨r, hv⟩ := hc.values
 unfold hostV
 cases hq : cf.values[m.reps]? with
 | none =>
  simp only []
  refine Rm.lacks _ _ _ _ (.inr rfl) ?_
  split
  ·exact MS.le_refl _
  ·split
   ·trivial
   ·exact ⟨Nat.le_refl _, [_], rfl, rfl⟩
 | some v =>
  have hlt : m.reps < cf.values.length := by
   rcases Nat.lt_or_ge m.reps cf.values.length with h | h
   ·exact h
   ·rw [List.getElem?_eq_none h] at hq; cases hq
  have h2 : cf'.values[m.reps]? = some v := by rw [hv, List.getElem?_append_left hlt, hq]
  rw [h2, hc.hs]
  simp only []
  split
  ·trivial
  ·exact Rm.refl _ _
include hr hg
theorem exprB_more (d : Nat) (fr : Fr) (h : EH) (k : Exs) (m : MS) : Rm (exprB cf ev d fr h k m) (exprB cf' ev' d fr h k m) := by
 have e1 : ∀ m s, readV cf' fr m s = readV cf fr m s := fun m s => by unfold readV wordsAt placeOf typeV; rw [hc.vs, hc.pl]
 have e2 : ∀ m s, wordsAt cf' m s = wordsAt cf m s := fun m s => by unfold wordsAt placeOf; rw [hc.pl]
 have e3 : ∀ i, typK cf' fr k i = typK cf fr k i := fun i => by unfold typK typF; rw [hc.vs, hc.cs]
 unfold exprB
 by_cases c1 : h.kind = 1 ∨ h.kind = 2
 ·rw [if_pos c1, if_pos c1]
  exact Rm.refl _ _
 rw [if_neg c1, if_neg c1]
 by_cases c2 : h.kind = 3
 ·rw [if_pos c2, if_pos c2]
  rw [e1]; exact Rm.refl _ _
 rw [if_neg c2, if_neg c2]
 by_cases c3 : h.kind = 4
 ·rw [if_pos c3, if_pos c3]
  refine Rm.bind (evK_more hr _ _ _ _ _) (fun i m1 => ?_) (fun i m1 => ?_)
  ·rw [e2]
   split
   ·exact Rm.refl _ _
   ·exact Rm.stop _ _ _ (by omega)
  ·split <;> exact MS.le_refl _
 rw [if_neg c3, if_neg c3]
 by_cases c4 : h.kind = 5
 ·rw [if_pos c4, if_pos c4]
  refine Rm.bind (evArgs_more hr hg _ _ _ _) (fun l m1 => ?_) (fun l m1 => ?_)
  ·rw [hc.cs]
   split
   ·trivial
   ·split
    ·exact hr.F _ _ _ _
    ·exact hostV_more hc _ _ _
  ·split
   ·trivial
   ·split
    ·exact hg.F _ _ _ _
    ·unfold hostV
     split
     ·exact MS.le_refl _
     ·split
      ·trivial
      ·exact ⟨Nat.le_refl _, [_], rfl, rfl⟩
 rw [if_neg c4, if_neg c4]
 by_cases c5 : h.kind = 6
 ·rw [if_pos c5, if_pos c5]
  refine Rm.bind (evK_more hr _ _ _ _ _) (fun v m1 => ?_) (fun v m1 => ?_)
  ·rw [e3, hc.alu]
   repeat' split
   all_goals exact Rm.refl _ _
  ·repeat' split
   all_goals exact MS.le_refl _
 rw [if_neg c5, if_neg c5]
 by_cases c6 : h.kind = 7
 ·rw [if_pos c6, if_pos c6]
  refine Rm.bind (evK_more hr _ _ _ _ _) (fun a m1 => ?_) (fun a m1 => ?_)
  ·split
   ·exact Rm.refl _ _
   split
   ·exact Rm.refl _ _
   refine Rm.bind (evK_more hr _ _ _ _ _) (fun b m2 => ?_) (fun b m2 => ?_)
   ·rw [e3, hc.alu]
    split
    ·exact Rm.refl _ _
    ·split
     ·exact Rm.refl _ _
     ·exact Rm.stop _ _ _ (by omega)
   ·repeat' split
    all_goals exact MS.le_refl _
  ·split
   ·exact MS.le_refl _
   split
   ·exact MS.le_refl _
   refine Out.from_bind (evK_from hg _ _ _ _ _) fun b m2 _ => ?_
   repeat' split
   all_goals exact MS.le_refl _
 rw [if_neg c6, if_neg c6]
 by_cases c7 : h.kind = 8
 ·rw [if_pos c7, if_pos c7]
  refine Rm.bind (evK_more hr _ _ _ _ _) (fun v m1 => ?_) (fun v m1 => ?_)
  ·rw [e3, hc.alu]
   repeat' split
   all_goals exact Rm.refl _ _
  ·repeat' split
   all_goals exact MS.le_refl _
 rw [if_neg c7, if_neg c7]
 trivial
theorem putV_more (d : Nat) (fr : Fr) (h : SH) (x : Exs) (m : MS) : Rm (putV cf ev d fr h x m) (putV cf' ev' d fr h x m) := by
 have e1 : ∀ m s, wordsAt cf' m s = wordsAt cf m s := fun m s => by unfold wordsAt placeOf; rw [hc.pl]
 have e2 : ∀ m s i v, putW cf' m s i v = putW cf m s i v := fun m s i v => by unfold putW wordsAt placeOf; rw [hc.pl]
 have e3 : ∀ s, typeV cf' s = typeV cf s := fun s => by unfold typeV; rw [hc.vs]
 unfold putV
 refine Rm.bind (evK_more hr _ _ _ _ _) (fun i m1 => ?_) (fun i m1 => ?_)
 ·rw [e1]
  split
  ·exact Rm.stop _ _ _ (by omega)
  ·refine Rm.bind (evK_more hr _ _ _ _ _) (fun v m2 => ?_) (fun v m2 => ?_)
   ·rw [hc.alu, e2, e3]
    split
    ·exact Rm.refl _ _
    ·split
     ·rw [e2]; exact Rm.refl _ _
     ·exact Rm.stop _ _ _ (by omega)
   ·split
    ·exact putW_le _ _ _ _
    ·split
     ·exact putW_le _ _ _ _
     ·exact MS.le_refl _
 ·split
  ·exact MS.le_refl _
  ·refine Out.from_bind (evK_from hg _ _ _ _ _) fun v m2 _ => ?_
   split
   ·exact putW_le _ _ _ _
   ·split
    ·exact putW_le _ _ _ _
    ·exact MS.le_refl _
theorem stmtV_more (d : Nat) (fr : Fr) (h : SH) (x : Exs) (b e : Sts) (m : MS) : Rm (stmtV cf ev d fr h x b e m) (stmtV cf' ev' d fr h x b e m) := by
 unfold stmtV
 refine Rm.bind (tick_more hc _) (fun _ m1 => ?_) (fun _ m1 => ?_)
 ·split
  ·exact Rm.bind (evK_more hr _ _ _ _ _) (fun v m1 => Rm.refl _ _) (fun v m1 => MS.le_refl _)
  split
  ·exact Rm.bind (setV_more hc hr _ _ _ _ _) (fun v m1 => Rm.refl _ _) (fun v m1 => MS.le_refl _)
  split
  ·exact Rm.bind (putV_more hc hr hg _ _ _ _ _) (fun v m1 => Rm.refl _ _) (fun v m1 => MS.le_refl _)
  split
  ·refine Rm.bind (evK_more hr _ _ _ _ _) (fun v m1 => ?_) (fun v m1 => ?_)
   ·split <;> exact hr.L _ _ _ _
   ·split <;> exact hg.L _ _ _ _
  split
  ·split
   ·exact hr.W _ _ _ _ _ _
   ·trivial
  split
  ·exact Rm.refl _ _
  split
  ·exact Rm.refl _ _
  split
  ·exact Rm.bind (evK_more hr _ _ _ _ _) (fun v m1 => Rm.refl _ _) (fun v m1 => MS.le_refl _)
  split
  ·exact Rm.bind (evK_more hr _ _ _ _ _) (fun v m1 => Rm.refl _ _) (fun v m1 => MS.le_refl _)
  ·exact Rm.refl _ _
 ·have := stmtV_from (cf := ⟨cf'.vs, cf'.cs, cf'.pl, cf'.hs, cf'.fs, m1.steps + 1, cf'.values, cf'.alu⟩) hg d fr h x b e m1
  split
  ·exact Out.from_bind (evK_from hg _ _ _ _ _) fun v m1 _ => MS.le_refl _
  split
  ·exact Out.from_bind (setV_from hg _ _ _ _ _) fun v m1 _ => MS.le_refl _
  split
  ·exact Out.from_bind (putV_from hg _ _ _ _ _) fun v m1 _ => MS.le_refl _
  split
  ·refine Out.from_bind (evK_from hg _ _ _ _ _) fun v m1 _ => ?_
   split <;> exact hg.L _ _ _ _
  split
  ·split
   ·exact hg.W _ _ _ _ _ _
   ·trivial
  split
  ·exact MS.le_refl _
  split
  ·exact MS.le_refl _
  split
  ·exact Out.from_bind (evK_from hg _ _ _ _ _) fun v m1 _ => MS.le_refl _
  split
  ·exact Out.from_bind (evK_from hg _ _ _ _ _) fun v m1 _ => MS.le_refl _
  ·exact MS.le_refl _
theorem stmtsV_more (d : Nat) : ∀ (l : Sts) (fr : Fr) (m : MS), Rm (stmtsV cf ev d l fr m) (stmtsV cf' ev' d l fr m)
 | .nil, fr, m => Rm.refl _ _
 | .cons h x b e r, fr, m => by
  unfold stmtsV
  refine Rm.bind (stmtV_more hc hr hg _ _ _ _ _ _ _) (fun q m1 => ?_) (fun q m1 => ?_)
  ·split
   ·exact stmtsV_more d r _ _
   ·exact Rm.refl _ _
  ·split
   ·exact stmtsV_from hg _ _ _ _
   ·exact MS.le_refl _
theorem whileV_more (d : Nat) (fr : Fr) (h : EH) (k : Exs) (b : Sts) (m : MS) : Rm (whileV cf ev d fr h k b m) (whileV cf' ev' d fr h k b m) := by
 unfold whileV
 refine Rm.bind (hr.E _ _ _ _ _) (fun c m1 => ?_) (fun c m1 => ?_)
 ·split
  ·exact Rm.refl _ _
  ·refine Rm.bind (hr.L _ _ _ _) (fun q m2 => ?_) (fun q m2 => ?_)
   ·split
    ·exact Rm.refl _ _
    split
    ·exact Rm.refl _ _
    ·exact Rm.bind (tick_more hc _) (fun _ m3 => hr.W _ _ _ _ _ _) (fun _ m3 => hg.W _ _ _ _ _ _)
   ·split
    ·exact MS.le_refl _
    split
    ·exact MS.le_refl _
    ·exact Out.from_bind (tick_from _ _) fun _ m3 _ => hg.W _ _ _ _ _ _
 ·split
  ·exact MS.le_refl _
  ·refine Out.from_bind (hg.L _ _ _ _) fun q m2 _ => ?_
   split
   ·exact MS.le_refl _
   split
   ·exact MS.le_refl _
   ·exact Out.from_bind (tick_from _ _) fun _ m3 _ => hg.W _ _ _ _ _ _
end
theorem funcV_more {cf cf' : Cf} {ev ev' : Evl} (hc : cf.More cf') (hr : ev.Rel ev') (d : Nat) (g : Sig) (l : List Int) (m : MS) : Rm (funcV cf ev d g l m) (funcV cf' ev' d g l m) := by
 unfold funcV
 rw [hc.fs]
 split
 ·exact Rm.stop _ _ _ (by omega)
 ·split
  ·trivial
  ·exact Rm.bind (hr.L _ _ _ _) (fun q m2 => Rm.refl _ _) (fun q m2 => MS.le_refl _)
theorem evl_more {cf cf' : Cf} (hc : cf.More cf') : ∀ n, (evl cf n).Rel (evl cf' n)
 | 0 => ⟨fun _ _ _ _ _ => trivial, fun _ _ _ _ => trivial, fun _ _ _ _ _ _ => trivial, fun _ _ _ _ => trivial⟩
 | n + 1 => ⟨fun d fr h k m => Rm.bind (tick_more hc _) (fun _ m1 => exprB_more hc (evl_more hc n) (evl_good cf' n) _ _ _ _ _) (fun _ m1 => exprB_from (evl_good cf' n) _ _ _ _ _),
  fun d fr l m => Rm.bind (stmtsV_more hc (evl_more hc n) (evl_good cf' n) _ _ _ _) (fun q m1 => Rm.refl _ _) (fun q m1 => MS.le_refl _),
  fun d fr h k b m => whileV_more hc (evl_more hc n) (evl_good cf' n) _ _ _ _ _ _, fun d g l m => funcV_more hc (evl_more hc n) _ _ _ _⟩
end
section
open Go.ChangeShapes Go.WideShapes Go.ChangeAt Go.RowKit
open Go.ChangeMaps (open_string shut_string)
theorem bulk_append {H : Type} (l r : List (DataW H)) : Rows.uptoBulkAll (l ++ r) = Rows.uptoBulkAll l + Rows.uptoBulkAll r := by
 induction l with
 | nil => simp [Rows.uptoBulkAll]
 | cons x l ih => simp only [List.cons_append, Rows.uptoBulkAll, ih]; omega
theorem bulk_one {H : Type} (d : DataW H) : 1 ≤ Rows.uptoBulk d := by
 cases d with
 | lit l => cases l <;> simp [Rows.uptoBulk]
 | nil => simp [Rows.uptoBulk]
 | ptr d => simp [Rows.uptoBulk]
 | slice elems spare => simp [Rows.uptoBulk]
 | agg parts => simp [Rows.uptoBulk]
 | iface t d => simp [Rows.uptoBulk]
 | map entries => simp [Rows.uptoBulk]
 | held h => simp [Rows.uptoBulk]
theorem bulk_length {H : Type} (l : List (DataW H)) : l.length ≤ Rows.uptoBulkAll l := by
 induction l with
 | nil => simp [Rows.uptoBulkAll]
 | cons x r ih => have := bulk_one x; simp only [Rows.uptoBulkAll, List.length_cons]; omega
theorem bulk_bound {H : Type} {l : List (DataW H)} (hk : Rows.uptoSmall H l = true) : Rows.uptoBulkAll l ≤ 1048576 := by
 have h := of_decide_eq_true hk
 exact h
section
variable {H : Type} {enc : TypeId × Value → H} {P : Program} {w : World}
theorem open_ints_at {t e : TypeId} {k : IntKind} {a : Option Addr} {len cap : Nat} {d : DataW H} {p : List MemPlace} (ht : P.underlying t = some (.slice e)) (he : P.underlying e = some (.int k)) (hc : P.cellsOf e = 1)
  (h : DataW.Trod enc P w 0 (fun _ => true) true t (.slice a len cap) d p) :
  ∃ l rest : List Int, len = l.length ∧ Ints k w a l ∧ l.length + rest.length = cap ∧ cap ≤ maxLen ∧ ((d = .nil ∧ cap = 0) ∨ d = .slice (lits k l) (lits k rest)) := by
 obtain ⟨fuel, hf⟩ := h
 rcases open_ints ht he hc hf with ⟨hcs, hx⟩ | ⟨x, l, c, zs, hcs, _, hl, hm, hz, hx, hcell, hwz⟩
 ·simp [Value.cells] at hcs
  obtain ⟨rfl, rfl, rfl⟩ := hcs
  simp only [Prod.mk.injEq] at hx
  exact ⟨[], [], rfl, Ints.nil _ _ _, rfl, by simp [maxLen], .inl ⟨hx.1, rfl⟩⟩
 ·simp [Value.cells] at hcs
  obtain ⟨rfl, rfl, rfl⟩ := hcs
  simp only [Prod.mk.injEq] at hx
  simp only [if_true] at hz
  have hL : (zs.take len).length = len := by rw [List.length_take]; omega
  refine ⟨zs.take len, zs.drop len, hL.symm, ⟨fun n hn => hwz n (List.mem_of_mem_take hn), ?_⟩, by simp only [List.length_take, List.length_drop]; omega, hm, .inr hx.1⟩
  by_cases h0 : len = 0
  ·exact .inl (by omega)
  ·right
   obtain ⟨b, off, spot⟩ := x
   have hspot : spot = none := by simpa [Addr.add] using World.cell?_spot (hcell 0 (by omega))
   subst hspot
   refine ⟨b, off, rfl, fun i hi => ?_⟩
   rw [hL] at hi
   have := hcell i (by omega)
   rw [add_plain] at this
   rw [this]
   simp [List.getD, List.getElem?_take, hi]
theorem bulk_ints {k : IntKind} {l rest : List Int} {cap : Nat} {d : DataW H} (hc : l.length + rest.length = cap) (hd : (d = .nil ∧ cap = 0) ∨ d = .slice (lits k l) (lits k rest)) : cap + 1 ≤ Rows.uptoBulk d := by
 rcases hd with ⟨rfl, rfl⟩ | rfl
 ·simp [Rows.uptoBulk]
 ·have h1 := bulk_length (lits (H := H) k l)
  have h2 := bulk_length (lits (H := H) k rest)
  simp only [lits, List.length_map] at h1 h2
  simp only [Rows.uptoBulk, lits]
  omega
theorem sized_ints {k : IntKind} {ts : List TypeId} {ds : List (DataW H)} {l rest : List Int} {cap : Nat} {d : DataW H} (h : (DataW.weightsEach P ts ds).all (· ≤ reachBytes) = true) {j : Nat} {t e : TypeId} (ht : ts[j]? = some t) (hj : ds[j]? = some d)
  (hu : P.underlying t = some (.slice e)) (hc : l.length + rest.length = cap) (hd : (d = .nil ∧ cap = 0) ∨ d = .slice (lits k l) (lits k rest)) : cap * P.bytesOf e ≤ 140737488351232 := by
 rcases hd with ⟨rfl, rfl⟩ | rfl
 ·simp
 ·have := sized_slice h ht hj hu
  simp only [lits, List.length_map] at this
  rw [hc] at this
  exact this
end
theorem own : ownKnob Tryz.prog.godebug = none := by kernel_rfl
theorem laidOut : laidOutB Tryz.prog = true := by kernel_rfl
end
end Go.Proofs.YtlabadkfkbenoaaGreatDoor
