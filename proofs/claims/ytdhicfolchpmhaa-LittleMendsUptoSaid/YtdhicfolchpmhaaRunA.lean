/- Helper lemmas: lists of runs. No condition. -/
import Derived.Test.YtdhicfolchpmhaaRunP
import Derived.Test.YtdhicfolchpmhaaHeldK
import Derived.Test.YtdhicfolchpmhaaWalkC
namespace Go.Proofs.Ytdhicfolchpmhaa
open Go.RowKit
set_option linter.unusedVariables false
set_option linter.unusedSimpArgs false

/-- append to an own row, as one step of a region that draws its order -/
theorem step_append_str {P : Program} {w : World} {ops : Array Oper} {o : Oper} {a : Act} {K : Act → World → Prop} {Q : Exit → Act → World → Prop} {E : Prop} (hgd : o.guard = none) (s x : Operand) (t : TypeId)
    (ho : o.op = .call { callee := .builtin .append, args := #[s, x], argTypes := #[t, t] })
    (base : Nat) (e e' : TypeId) (z : Value) (size bytes m : Nat) (ht : P.underlying t = some (.slice e)) (hinfo : (P.info? e).map (fun i => (i.zero, i.size, i.bytes)) = some (some z, size, bytes))
    (hzs : z.cells.size = size) (hsz : 0 < size)
    (v : Value) (n : Nat) (xs news : List Value) (fr : Nat × Nat) (hown : w.ownsRow base e size v n xs) (hl : news.length = m * size) (h1 : ∀ u ∈ news, u.oneCell' = true)
    (h63 : n + m ≤ maxLen) (hbytes : (n + m) * bytes ≤ 140737488355328) (hbase : base ≤ w.heap.size)
    (hs : a.eval s = v) (hx : a.eval x = .slice (some ⟨w.heap.size, 0, none⟩) m m)
    (h : ∀ v' w', Appended w w' base e size v v' n m xs news → K (a.put o.dst v') w') :
    if Region.wanted o (yielded ops a.tmps) = true then Oper.wp P o a (w.alloc (.cells news.toArray e' fr)) K Q else E := by
  have hw : Region.wanted o (yielded ops a.tmps) = true := by simp [Region.wanted, hgd]
  rw [if_pos hw]
  obtain ⟨i, hi, hz0, hz1, hz2⟩ := info_parts hinfo
  subst hz1
  subst hz2
  obtain ⟨v', w', hr, hA⟩ := append_strong (P := P) (w.alloc (.cells news.toArray e' fr)) base t o.type e i z ht hi hz0 hzs hsz v n xs (hown.alloc _) ⟨w.heap.size, 0, none⟩ m m news hl (by
    intro j u hj
    have hadd : (⟨w.heap.size, 0, none⟩ : Addr).add j = ⟨w.heap.size, j, none⟩ := by unfold Addr.add; split <;> simp_all
    rw [hadd, World.cell?_alloc_mark]; simpa using hj) h1 h63 hbytes (by simp; omega)
  unfold Oper.wp execOp
  simp only [ho, resolve, invoke, builtin, Sem.run_bind, Sem.run_pure, Result.andThen_ok, List.map_toArray, List.map_cons, List.map_nil, hs, hx, hr]
  refine h v' w' ⟨hA.own, hA.old, grown_trans (World.grownBy_alloc w _ _) hA.grown, ?_, hA.nil⟩
  rcases hA.place with h | ⟨g, h1, h2, h3⟩
  · exact .inl h
  · exact .inr ⟨g, h1, by simp at h2; omega, h3⟩

/-- a run as it lies: its place, its slice, its bytes -/
structure RunW where
  at_ : Nat
  v : Value
  l : List Int
def RunW.row (r : RunW) : RowS := ⟨r.v, 5, 1, r.l.length, r.l.map (Value.int .u8)⟩
def RunW.cells (r : RunW) : List Value := [.int .u32 r.at_, r.v]
def RunW.two (r : RunW) : Nat × List Int := (r.at_, r.l)
theorem run_cells_len (R : List RunW) : (R.flatMap RunW.cells).length = R.length * 2 := by
  induction R with
  | nil => rfl
  | cons r R ih => simp only [List.flatMap_cons, List.length_append, ih, RunW.cells, List.length_cons, List.length_nil]; omega
theorem run_cells_get : ∀ (R : List RunW) (i : Nat) (h : i < R.length), (R.flatMap RunW.cells)[i * 2]? = some (.int .u32 R[i].at_) ∧ (R.flatMap RunW.cells)[i * 2 + 1]? = some R[i].v
  | [], i, h => absurd h (by simp)
  | r :: R, 0, _ => ⟨rfl, rfl⟩
  | r :: R, i + 1, h => by
    have := run_cells_get R i (by simpa using h)
    rw [show (i + 1) * 2 = i * 2 + 2 by omega]
    exact this

/-- a list of runs that was made -/
structure Rn (w : World) (B : Nat) (v : Value) (R : List RunW) : Prop where
  sep : Sep w B (⟨v, 104, 2, R.length, R.flatMap RunW.cells⟩ :: R.map RunW.row)
/-- and a run that is being made, in block q -/
structure Rop (w : World) (B : Nat) (v : Value) (q : Nat) (cv : Value) (R : List RunW) (i : Nat) (l : List Int) : Prop where
  sep : Sep w B (⟨v, 104, 2, R.length, R.flatMap RunW.cells⟩ :: ⟨.slice (some ⟨q, 0, none⟩) 1 1, 104, 2, 1, [.int .u32 i, cv]⟩ :: ⟨cv, 5, 1, l.length, l.map (Value.int .u8)⟩ :: R.map RunW.row)

theorem Rn.start (w : World) (B : Nat) : Rn w B (.slice none 0 0) [] := ⟨⟨fun i hi => by
  obtain rfl : i = 0 := by simpa using hi
  exact World.ownsRow_nil w B 104 2, fun i j hi hj hij => by simp at hi hj; omega⟩⟩
theorem Rn.below {w w' : World} {B : Nat} {v : Value} {R : List RunW} (h : Rn w B v R) (hb : Below w.heap.size w w') : Rn w' B v R := ⟨h.sep.below hb (Nat.le_refl _)⟩
theorem Rop.below {w w' : World} {B q i : Nat} {v cv : Value} {R : List RunW} {l : List Int} (h : Rop w B v q cv R i l) (hb : Below w.heap.size w w') : Rop w' B v q cv R i l := ⟨h.sep.below hb (Nat.le_refl _)⟩
theorem Rn.own {w : World} {B : Nat} {v : Value} {R : List RunW} (h : Rn w B v R) : w.ownsRow B 104 2 v R.length (R.flatMap RunW.cells) := by
  have := h.sep.own 0 (by simp); simpa using this

theorem Rn.open {w : World} {B : Nat} {v : Value} {R : List RunW} (h : Rn w B v R) (hB : B ≤ w.heap.size) (i : Nat) : Rop (w.alloc (.cells #[.int .u32 i, .slice none 0 0] 104)) B v w.heap.size (.slice none 0 0) R i [] := by
  have h1 := h.sep.alloc (.cells #[.int .u32 i, .slice none 0 0] 104)
  have o1 : (w.alloc (.cells #[.int .u32 i, .slice none 0 0] 104)).ownsRow B 104 2 (.slice (some ⟨w.heap.size, 0, none⟩) 1 1) 1 [.int .u32 i, .slice none 0 0] :=
    own_base (World.ownsRow_lit (e := 104) (size := 2) w #[.int .u32 i, .slice none 0 0] 1 (Nat.le_refl _) (by decide) rfl) hB
  have h2 := h1.push ⟨.slice (some ⟨w.heap.size, 0, none⟩) 1 1, 104, 2, 1, [.int .u32 i, .slice none 0 0]⟩ o1 (fun j hj => h.sep.apart_new _ (fun g hg => by simp [Value.ownBlock] at hg; omega) j hj)
  have h3 := h2.push ⟨.slice none 0 0, 5, 1, 0, []⟩ (World.ownsRow_nil _ B 5 1) (fun j hj => RowS.apart_symm (.inl rfl))
  refine ⟨?_⟩
  rw [Sep.pair] at h3 ⊢
  have hp : (⟨v, 104, 2, R.length, R.flatMap RunW.cells⟩ :: R.map RunW.row ++ [⟨.slice (some ⟨w.heap.size, 0, none⟩) 1 1, 104, 2, 1, [.int .u32 i, .slice none 0 0]⟩] ++ [⟨.slice none 0 0, 5, 1, 0, []⟩] : List RowS).Perm
      (⟨v, 104, 2, R.length, R.flatMap RunW.cells⟩ :: ⟨.slice (some ⟨w.heap.size, 0, none⟩) 1 1, 104, 2, 1, [.int .u32 i, .slice none 0 0]⟩ :: ⟨.slice none 0 0, 5, 1, 0, []⟩ :: R.map RunW.row) := by
    simp only [List.cons_append, List.append_assoc]
    exact List.Perm.cons _ (List.perm_append_comm (l₁ := R.map RunW.row) (l₂ := [_, _]))
  exact ⟨fun r hr => h3.1 r (hp.mem_iff.2 hr), (hp.pairwise_iff (fun h => RowS.apart_symm h)).1 h3.2⟩

theorem Rop.ownO {w : World} {B q i : Nat} {v cv : Value} {R : List RunW} {l : List Int} (h : Rop w B v q cv R i l) : w.ownsRow B 104 2 v R.length (R.flatMap RunW.cells) := by
  have := h.sep.own 0 (by simp); simpa using this
theorem Rop.ownQ {w : World} {B q i : Nat} {v cv : Value} {R : List RunW} {l : List Int} (h : Rop w B v q cv R i l) : w.ownsRow B 104 2 (.slice (some ⟨q, 0, none⟩) 1 1) 1 [.int .u32 i, cv] := by
  have := h.sep.own 1 (by simp); simpa using this
theorem Rop.ownC {w : World} {B q i : Nat} {v cv : Value} {R : List RunW} {l : List Int} (h : Rop w B v q cv R i l) : w.ownsRow B 5 1 cv l.length (l.map (Value.int .u8)) := by
  have := h.sep.own 2 (by simp); simpa using this
theorem Rop.farQ {w : World} {B q i : Nat} {v cv : Value} {R : List RunW} {l : List Int} (h : Rop w B v q cv R i l) : some q ≠ cv.ownBlock ∧ some q ≠ v.ownBlock := by
  have h1 := h.sep.apart 1 2 (by simp) (by simp) (by decide)
  have h2 := h.sep.apart 1 0 (by simp) (by simp) (by decide)
  simp only [List.getElem_cons_zero, List.getElem_cons_succ, RowS.apart, Value.ownBlock] at h1 h2
  exact ⟨h1.resolve_left (by simp), h2.resolve_left (by simp)⟩
/-- the block q, read -/
theorem Rop.q0 {w : World} {B q i : Nat} {v cv : Value} {R : List RunW} {l : List Int} (h : Rop w B v q cv R i l) : w.cell? ⟨q, 0, none⟩ = some (.int .u32 i) := by
  have := h.ownQ.cellAt 0 (by omega); simpa using this
theorem Rop.q1 {w : World} {B q i : Nat} {v cv : Value} {R : List RunW} {l : List Int} (h : Rop w B v q cv R i l) : w.cell? ⟨q, 1, none⟩ = some cv := by
  have := h.ownQ.cellAt 1 (by omega); simpa using this
theorem Rop.fz {w : World} {B q i : Nat} {v cv : Value} {R : List RunW} {l : List Int} (h : Rop w B v q cv R i l) (j : Nat) : w.frozen? ⟨q, j, none⟩ = false := h.ownQ.frozenAt j

/-- behind the append: the run's cell still reads as it did -/
theorem Rop.appended {w w' : World} {B q i : Nat} {v cv cv' : Value} {R : List RunW} {l : List Int} {y : Int} (h : Rop w B v q cv R i l) (hA : Appended w w' B 5 1 cv cv' l.length 1 (l.map (Value.int .u8)) [.int .u8 y]) :
    w'.cell? ⟨q, 1, none⟩ = some cv ∧ w'.frozen? ⟨q, 1, none⟩ = false ∧ Rop (w'.setCell ⟨q, 1, none⟩ cv') B v q cv' R i (l ++ [y]) := by
  have p1 : cv'.ownBlock = cv.ownBlock ∨ ∃ g, cv'.ownBlock = some g ∧ w.heap.size ≤ g := by
    rcases hA.place with hp | ⟨g, hp, hg, _⟩
    · exact .inl hp
    · exact .inr ⟨g, hp, hg⟩
  have s1 := h.sep.turn 2 (by simp) ⟨cv', 5, 1, l.length + 1, l.map (Value.int .u8) ++ [.int .u8 y]⟩ (by simpa using hA.grown) hA.own (by simpa using p1)
  simp only [List.set_cons_succ, List.set_cons_zero] at s1
  have oq := s1.own 1 (by simp)
  simp only [List.getElem_cons_zero, List.getElem_cons_succ] at oq
  have hst := oq.stored 1 cv'
  have s2 := s1.turn 1 (by simp) ⟨.slice (some ⟨q, 0, none⟩) 1 1, 104, 2, 1, [.int .u32 i, cv']⟩ hst.2 (by simpa using hst.1) (.inl rfl)
  simp only [List.set_cons_succ, List.set_cons_zero] at s2
  refine ⟨by have := oq.cellAt 1 (by omega); simpa using this, oq.frozenAt 1, ⟨?_⟩⟩
  rw [List.length_append, List.length_singleton, List.map_append]
  exact s2

theorem Rop.close {w w' : World} {B q i : Nat} {v v' cv : Value} {R : List RunW} {l : List Int} (h : Rop w B v q cv R i l) (hA : Appended w w' B 104 2 v v' R.length 1 (R.flatMap RunW.cells) [.int .u32 i, cv]) : Rn w' B v' (R ++ [⟨i, cv, l⟩]) := by
  have p1 : v'.ownBlock = v.ownBlock ∨ ∃ g, v'.ownBlock = some g ∧ w.heap.size ≤ g := by
    rcases hA.place with hp | ⟨g, hp, hg, _⟩
    · exact .inl hp
    · exact .inr ⟨g, hp, hg⟩
  have s1 := h.sep.turn 0 (by simp) ⟨v', 104, 2, R.length + 1, R.flatMap RunW.cells ++ [.int .u32 i, cv]⟩ (by simpa using hA.grown) hA.own (by simpa using p1)
  simp only [List.set_cons_zero] at s1
  have s2 := s1.sub (((List.sublist_cons_self _ _)).cons_cons _)
  refine ⟨?_⟩
  rw [Sep.pair] at s2 ⊢
  have e1 : (R ++ ([⟨i, cv, l⟩] : List RunW)).flatMap RunW.cells = R.flatMap RunW.cells ++ [.int .u32 i, cv] := by rw [List.flatMap_append]; rfl
  have e2 : (R ++ ([⟨i, cv, l⟩] : List RunW)).map RunW.row = R.map RunW.row ++ [⟨cv, 5, 1, l.length, l.map (Value.int .u8)⟩] := by rw [List.map_append]; rfl
  rw [e1, e2, List.length_append, List.length_singleton]
  have hp : (⟨v', 104, 2, R.length + 1, R.flatMap RunW.cells ++ [.int .u32 i, cv]⟩ :: ⟨cv, 5, 1, l.length, l.map (Value.int .u8)⟩ :: R.map RunW.row : List RowS).Perm (⟨v', 104, 2, R.length + 1, R.flatMap RunW.cells ++ [.int .u32 i, cv]⟩ :: (R.map RunW.row ++ [⟨cv, 5, 1, l.length, l.map (Value.int .u8)⟩])) :=
    List.Perm.cons _ (List.perm_append_comm (l₁ := [_]))
  exact ⟨fun r hr => s2.1 r (hp.mem_iff.2 hr), (hp.pairwise_iff (fun h => RowS.apart_symm h)).1 s2.2⟩
end Go.Proofs.Ytdhicfolchpmhaa
