/- Walks: show, Console; what is kept of a host. No condition. -/
import Derived.Lib.AppendStr
import Derived.Test.YtmjholcpajfldaaGreatDoorHostD
namespace Go.Proofs.YtmjholcpajfldaaGreatDoor
open Go.RowKit
set_option linter.unusedVariables false
set_option linter.unusedSimpArgs false

set_option maxRecDepth 100000

theorem Kpt.own {T : Nat → Prop} {n : Nat} {w w' : World} (h : Kpt T n w w') {base e size k : Nat} {v : Value} {xs : List Value} (ho : w.ownsRow base e size v k xs) (hb : ∀ b, v.ownBlock = some b → b < n ∧ ¬ T b) : w'.ownsRow base e size v k xs := by
  obtain ⟨h1, h2⟩ := ho
  refine ⟨h1, ?_⟩
  rcases h2 with h2 | ⟨g, cap, cur, rfl, hg, hh, r⟩
  · exact .inl h2
  · exact .inr ⟨g, cap, cur, rfl, hg, (h.block g (hb g rfl).1 (hb g rfl).2).trans hh, r⟩
theorem Ho.hlt {w : World} {B h mb : Nat} {cv : Value} {con : List UInt8} {vs : List (ByteArray × Value)} {sd ck : Int} (hH : Ho w B h cv con mb vs sd ck) : ∀ b, HT h mb cv b → B ≤ b ∧ b < w.heap.size := by
  rintro b (rfl | rfl | hb)
  · exact ⟨hH.lo.1, hH.bx.lt⟩
  · exact ⟨hH.lo.2, hH.mp.lt⟩
  · exact hH.own.lt b hb
theorem Ho.kpt {T : Nat → Prop} {w w' : World} {B h mb : Nat} {cv : Value} {con : List UInt8} {vs : List (ByteArray × Value)} {sd ck : Int} (hH : Ho w B h cv con mb vs sd ck) (hk : Kpt T w.heap.size w w') (hT : ∀ b, HT h mb cv b → ¬ T b) : Ho w' B h cv con mb vs sd ck :=
  ⟨hk.box hH.bx hH.bx.lt (hT h (.inl rfl)), hk.own hH.own fun b hb => ⟨(hH.own.lt b hb).2, hT b (.inr (.inr hb))⟩, hk.map hH.mp hH.mp.lt (hT mb (.inr (.inl rfl))), hH.lo, hH.sd, hH.ck, hH.cl, hH.vl⟩
theorem Ho.below {w w' : World} {B h mb : Nat} {cv : Value} {con : List UInt8} {vs : List (ByteArray × Value)} {sd ck : Int} (hH : Ho w B h cv con mb vs sd ck) (hb : Below w.heap.size w w') : Ho w' B h cv con mb vs sd ck := hH.kpt (T := fun _ => False) (Kpt.of hb) (fun _ _ q => q)
theorem Ho.base {w : World} {B B' h mb : Nat} {cv : Value} {con : List UInt8} {vs : List (ByteArray × Value)} {sd ck : Int} (hH : Ho w B h cv con mb vs sd ck) (hb : B' ≤ B) : Ho w B' h cv con mb vs sd ck :=
  ⟨hH.bx, own_base hH.own hb, hH.mp, by have := hH.lo; omega, hH.sd, hH.ck, hH.cl, hH.vl⟩
/-- the blocks of a host lie apart -/
theorem Ho.ne {w : World} {B h mb : Nat} {cv : Value} {con : List UInt8} {vs : List (ByteArray × Value)} {sd ck : Int} (hH : Ho w B h cv con mb vs sd ck) : h ≠ mb ∧ cv.ownBlock ≠ some h ∧ cv.ownBlock ≠ some mb := by
  obtain ⟨es, c, hm, -⟩ := hH.mp
  have hb := hH.bx
  unfold Bx at hb
  refine ⟨fun e => ?_, fun e => ?_, fun e => ?_⟩
  · rw [e, hm] at hb; cases hb
  · obtain ⟨-, h2⟩ := hH.own
    rcases h2 with ⟨rfl, -⟩ | ⟨g, cap, cur, rfl, hg, hh, r⟩
    · cases e
    · simp only [Value.ownBlock, Option.some.injEq] at e
      rw [e, hb] at hh
      simp at hh
  · obtain ⟨-, h2⟩ := hH.own
    rcases h2 with ⟨rfl, -⟩ | ⟨g, cap, cur, rfl, hg, hh, r⟩
    · cases e
    · simp only [Value.ownBlock, Option.some.injEq] at e
      rw [e, hm] at hh
      cases hh
theorem Kpt.below {T : Nat → Prop} {B n : Nat} {w w' : World} (h : Kpt T n w w') (hB : B ≤ n) (hT : ∀ b, T b → B ≤ b) : Below B w w' := ⟨h.os, h.tape, h.output, h.size, fun b hb => h.block b (by omega) fun q => by have := hT b q; omega⟩
theorem Bx.below {w w' : World} {q : Nat} {cs : Array Value} {t : TypeId} (h : Bx w q cs t) (hb : Below w.heap.size w w') : Bx w' q cs t := (hb.block q h.lt).trans h
theorem grown_set (w : World) (b i : Nat) (v : Value) : w.grownBy (w.setCell ⟨b, i, none⟩ v) (some b) :=
  ⟨rfl, rfl, rfl, by simp, fun k hk hn => heap_setCell_other w _ k v (fun e => hn (by rw [e]))⟩
/-- two cells of a block of a call's own -/
theorem set30 (w : World) (q : Nat) (a b : Value) : w.grownBy ((w.setCell ⟨q, 0, none⟩ a).setCell ⟨q, 1, none⟩ b) (some q) := grown_trans (grown_set w q 0 a) (grown_set _ q 1 b)
theorem row_ne_box {w : World} {B e size n q : Nat} {v : Value} {xs : List Value} {cs : Array Value} {t : TypeId} (h : w.ownsRow B e size v n xs) (hb : Bx w q cs t) (hne : e ≠ t) : v.ownBlock ≠ some q := fun he => by
  rcases h.2 with ⟨rfl, -⟩ | ⟨g, cp, cur, rfl, hg, hh, r⟩
  · cases he
  · simp only [Value.ownBlock, Option.some.injEq] at he
    unfold Bx at hb
    rw [he, hb] at hh
    simp only [Option.some.injEq, Obj.cells.injEq] at hh
    exact hne hh.2.1.symm
theorem conv27 {B : Nat} {v : Value} {n : Nat} {l : List UInt8} {w : World} (hn : n = l.length) (ho : w.ownsRow B 5 1 v n (bv l)) : (convert 27 9 v).run Tryz.prog w = .ok (.string ⟨l.toArray⟩) w := by
  rcases ho.2 with ⟨rfl, h0⟩ | ⟨g, cap, cur, rfl, hg, hh, r⟩
  · obtain rfl : l = [] := List.eq_nil_of_length_eq_zero (by omega)
    exact run_convert_bytes_nil w 27 5 Tryz.underlying27 Tryz.underlying5 0 0 9 Tryz.underlying9
  · rw [hn]
    refine run_convert_bytes_back (P := Tryz.prog) w 27 9 5 ⟨g, 0, none⟩ cap l Tryz.underlying27 Tryz.underlying5 Tryz.underlying9 (fun j hj => ?_)
    rw [show (⟨g, 0, none⟩ : Addr).add j = ⟨g, j, none⟩ by unfold Addr.add; split <;> simp_all, ho.cellAt j (by omega)]
    simp [bv, List.getElem?_eq_getElem hj]
theorem console15 {w : World} {B h mb : Nat} {cv : Value} {con : List UInt8} {vs : List (ByteArray × Value)} {sd ck : Int} (hH : Ho w B h cv con mb vs sd ck) :
    Calls Tryz.prog 15 #[.pointer (some ⟨h, 0, none⟩)] w fun e w' => e = .returned (.string ⟨con.toArray⟩) ∧ w = w' := by
  have c0 : w.cell? ⟨h, 0, none⟩ = some cv := by simpa using hH.bx.cell 0
  have hc := conv27 rfl hH.own
  have hm := hid (made21 hH)
  clear hH
  go_enter Tryz.func15, Tryz.ntmps15
  go_wp2_with (go_at_call 21; refine hm.out.mono ?_; rintro e w1 ⟨rfl, rfl⟩)
  go_ret
  exact ⟨rfl, rfl⟩
theorem strCells_bv (s : ByteArray) : Lib.strCells s = bv s.data.toList := rfl

set_option maxHeartbeats 4000000 in
theorem show66_no {w : World} {B h mb : Nat} {cv : Value} {con : List UInt8} {vs : List (ByteArray × Value)} {sd ck : Int} (hH : Ho w B h cv con mb vs sd ck) (s : ByteArray) (hs : 4096 < con.length + s.size) (hs2 : s.size ≤ 1048576) :
    Calls Tryz.prog 66 #[.pointer (some ⟨h, 0, none⟩), .string s] w fun e w' => e = .returned (.agg #[.int .u32 4294967295, .slice none 0 0]) ∧ Below w.heap.size w w' := by
  have c0 : (w.alloc (.cells #[.int .u32 0, .slice none 0 0] 30)).cell? ⟨h, 0, none⟩ = some cv := cell_on (by simpa using hH.bx.cell 0) (by (repeat (first | exact Below.refl _ _ | refine Below.drew ?_ | refine Below.alloc ?_ (by simp <;> omega) _)))
  obtain ⟨ao, cap, rfl⟩ : ∃ ao cap, cv = .slice ao con.length cap := by
    rcases hH.own.2 with ⟨rfl, h0⟩ | ⟨g, cap, cur, rfl, hg, hh, r⟩
    · exact ⟨none, 0, by rw [h0]⟩
    · exact ⟨_, cap, rfl⟩
  have hl := hH.cl
  clear hH
  generalize con.length = n at *
  obtain ⟨k, hk⟩ : ∃ k, k = s.size := ⟨_, rfl⟩
  have h1 : ((4096 : Int) < (n : Int) + (k : Int)) = True := eq_true (by omega)
  have h2 : IntKind.i64.wrap ((n : Int) + (k : Int)) = (n : Int) + k := IntWalk.i64_in _ (by omega)
  have hb := hid ((Below.refl w.heap.size w).alloc (Nat.le_refl _) (.cells #[.int .u32 0, .slice none 0 0] 30))
  rw [← hk] at hs hs2
  go_enter Tryz.func66, Tryz.ntmps66
  go_wp2_with fail
  refine (value72 _ _).mono ?_
  rintro e w1 ⟨rfl, hb1⟩
  have hX : Bx w1 w.heap.size #[.int .u32 0, .slice none 0 0] 30 := (Bx.new w _ 30).below hb1
  have q0 : w1.cell? ⟨w.heap.size, 0, none⟩ = some (.int .u32 0) := by simpa using hX.cell 0
  have q1 : w1.cell? ⟨w.heap.size, 1, none⟩ = some (.slice none 0 0) := by simpa using hX.cell 1
  have f0 := hX.free 0
  have f1 := hX.free 1
  have hb2 := hid ((hX.set 0 (.int .u32 4294967295)).set 1 (.slice none 0 0))
  have hB := hid (hb.out.trans (hb1.mono hb.out.size))
  clear hX hb1 hb c0
  go_wp2_with fail
  refine bodyPost_ret (v := .agg #[.int .u32 4294967295, .slice none 0 0]) (results_cell_row rfl _ _ w.heap.size _ _ _ _ rfl hb2.out Tryz.underlying30 rfl (by kernel_rfl)) rfl ?_
  exact ⟨rfl, Below.setCell (Below.setCell hB.out (Nat.le_refl _) _) (Nat.le_refl _) _⟩
set_option maxHeartbeats 4000000 in
theorem show66 {w : World} {B h mb : Nat} {cv : Value} {con : List UInt8} {vs : List (ByteArray × Value)} {sd ck : Int} (hH : Ho w B h cv con mb vs sd ck) (s : ByteArray) (hs : con.length + s.size ≤ 4096) :
    Calls Tryz.prog 66 #[.pointer (some ⟨h, 0, none⟩), .string s] w fun e w' => e = .returned (.agg #[.int .u32 s.size, .slice none 0 0]) ∧ Kpt (HT h mb cv) w.heap.size w w' ∧ ∃ cv', Ho w' B h cv' (con ++ s.data.toList) mb vs sd ck := by
  obtain ⟨ib, hib, hz0, hz1, hz2⟩ := info_parts (show (Tryz.prog.info? 5).map (fun i => (i.zero, i.size, i.bytes)) = some (some (.int .u8 0), 1, 1) by kernel_rfl)
  have HH := hid hH
  have hBl := hH.lo
  have hhl := hH.bx.lt
  have hml := hH.mp.lt
  have hb := hid ((Below.refl w.heap.size w).alloc (Nat.le_refl _) (.cells #[.int .u32 0, .slice none 0 0] 30))
  have hX0 := hid (Bx.new w #[.int .u32 0, .slice none 0 0] 30)
  have hH1 := hid (hH.below hb.out)
  have c0 : (w.alloc (.cells #[.int .u32 0, .slice none 0 0] 30)).cell? ⟨h, 0, none⟩ = some cv := by simpa using hH1.out.bx.cell 0
  have own := hid hH1.out.own
  have hz := hid (show B ≤ (w.alloc (.cells #[.int .u32 0, .slice none 0 0] 30)).heap.size by simp; omega)
  obtain ⟨ao, cap, hcv⟩ : ∃ ao cap, cv = .slice ao con.length cap := by
    rcases hH.own.2 with ⟨rfl, h0⟩ | ⟨g, cap, cur, rfl, hg, hh, r⟩
    · exact ⟨none, 0, by rw [h0]⟩
    · exact ⟨_, cap, rfl⟩
  clear hH
  obtain ⟨n, hn⟩ : ∃ n, n = con.length := ⟨_, rfl⟩
  rw [← hn] at hs hcv
  have h2 : IntKind.i64.wrap ((n : Int) + (s.size : Int)) = (n : Int) + s.size := IntWalk.i64_in _ (by omega)
  have h3 : IntKind.u32.wrap (s.size : Int) = s.size := by rw [IntKind.wrap_u32]; omega
  have h1 : ((4096 : Int) < (n : Int) + (s.size : Int)) = False := eq_false (by omega)
  subst hcv
  rw [← hn] at own
  have HN := hid hn
  clear hn
  have AP := hid (show ∀ w1, (w.alloc (.cells #[.int .u32 0, .slice none 0 0] 30)).grownBy w1 (Value.slice ao n cap).ownBlock → Bx w1 h #[.slice ao n cap, .map (some mb), .int .u64 sd, .int .u32 ck] 56 ∧ Bx w1 w.heap.size #[.int .u32 0, .slice none 0 0] 30 ∧ Mp w1 mb vs from fun w1 hg => by
    have h9 := hH1.out.ne
    refine ⟨hH1.out.bx.on hg (fun e => h9.2.1 e.symm), hX0.out.on hg (fun e => ?_), hH1.out.mp.on hg (fun e => h9.2.2 e.symm)⟩
    have := (HH.out.own.lt _ e.symm).2
    omega)
  go_enter Tryz.func66, Tryz.ntmps66
  go_wp2_with (at_builtin; (refine Lib.wpList_append_own_string _ rfl _ _ 27 9 rfl B 5 ib Tryz.underlying27 Tryz.underlying9 hib hz0 hz1 hz2 _ n (bv con) rfl own.out s rfl (by unfold maxLen; omega) (by omega) hz.out ?_; intro v' w1 ho hg hn'; have O1 := hid ho; have G1 := hid hg; obtain ⟨b1, b2, b3⟩ := AP.out _ hg; have B1 := hid b1; have B2 := hid b2; have B3 := hid b3; have d0 : w1.cell? ⟨h, 0, none⟩ = some (.slice ao n cap) := (by simpa using b1.cell 0); have e0 := b1.free 0; clear ho hg b1 b2 b3 AP; obtain ⟨ao', cap', rfl, -⟩ := own_any_shape O1.out))
  have hne : h ≠ w.heap.size := by omega
  have G2 := hid (grown_set w1 h 0 (.slice ao' (n + s.size) cap'))
  have X2 := hid (B2.out.on G2.out (fun e => by simp only [Option.some.injEq] at e; omega))
  have hown2 : w1.ownsRow B 5 1 (.slice ao' (n + s.size) cap') (n + s.size) (bv con ++ Lib.strCells s) := O1.out
  have hob : (Value.slice ao' (n + s.size) cap').ownBlock ≠ some h := fun e => by
    rcases hown2.2 with ⟨q, -⟩ | ⟨g, cp, cur, q, hg, hh, r⟩
    · rw [q] at e; cases e
    · rw [q] at e
      simp only [Value.ownBlock, Option.some.injEq] at e
      have := B1.out
      unfold Bx at this
      rw [e, this] at hh
      simp at hh
  have N2 : Hid (Ho (w1.setCell ⟨h, 0, none⟩ (.slice ao' (n + s.size) cap')) B h (.slice ao' (n + s.size) cap') (con ++ s.data.toList) mb vs sd ck) := by
    have hl : (con ++ s.data.toList).length = n + s.size := by rw [List.length_append, HN.out]; rfl
    refine ⟨by simpa using B1.out.set 0 (.slice ao' (n + s.size) cap'), ?_, B3.out.on G2.out (fun e => ?_), HH.out.lo, HH.out.sd, HH.out.ck, by omega, HH.out.vl⟩
    · rw [hl]
      have := hown2.kept G2.out (.inr hob)
      rw [strCells_bv] at this
      simpa [bv] using this
    · simp only [Option.some.injEq] at e
      exact HH.out.ne.1 e.symm
  have K2 : Hid (Kpt (HT h mb (.slice ao n cap)) w.heap.size w (w1.setCell ⟨h, 0, none⟩ (.slice ao' (n + s.size) cap'))) := by
    refine (Kpt.of hb.out).trans ((Kpt.gr G1.out (by simp) (fun k e => .inl (.inr (.inr e)))).trans (Kpt.gr G2.out ?_ (fun k e => .inl (.inl ?_))))
    · have := G1.out.size; simp at this; omega
    · simp only [Option.some.injEq] at e
      exact e.symm
  have hsz : w.heap.size < (w1.setCell ⟨h, 0, none⟩ (.slice ao' (n + s.size) cap')).heap.size := by
    have := G1.out.size; simp at this; simp; omega
  clear hown2 hob G2 B1 B2 B3 O1 G1 d0 e0 hX0 hH1 own hz c0 HN HH
  generalize w1.setCell ⟨h, 0, none⟩ (.slice ao' (n + s.size) cap') = w2 at *
  refine (value72 _ _).mono ?_
  rintro e w3 ⟨rfl, hb3⟩
  have hX := X2.out.below hb3
  have q0 : w3.cell? ⟨w.heap.size, 0, none⟩ = some (.int .u32 0) := by simpa using hX.cell 0
  have q1 : w3.cell? ⟨w.heap.size, 1, none⟩ = some (.slice none 0 0) := by simpa using hX.cell 1
  have f0 := hX.free 0
  have f1 := hX.free 1
  have hb2 := hid ((hX.set 0 (.int .u32 (s.size : Int))).set 1 (.slice none 0 0))
  have S3 := hid (set30 w3 w.heap.size (.int .u32 (s.size : Int)) (.slice none 0 0))
  have H3 := hid (N2.out.below hb3)
  have K3 := hid (K2.out.trans (Kpt.of (hb3.mono (by omega))))
  have hob3 := hid (row_ne_box H3.out.own hX (by decide))
  have hl2 : Hid (h < w.heap.size ∧ mb < w.heap.size ∧ w.heap.size ≤ w3.heap.size) := ⟨hhl, hml, by have := hX.lt; omega⟩
  clear hX hb3 hb X2 K2 N2
  go_wp2_with fail
  refine bodyPost_ret (v := .agg #[.int .u32 (s.size : Int), .slice none 0 0]) (results_cell_row rfl _ _ w.heap.size _ _ _ _ rfl hb2.out Tryz.underlying30 rfl (by kernel_rfl)) rfl ?_
  refine ⟨rfl, K3.out.trans (Kpt.gr S3.out hl2.out.2.2 fun k e => by simp only [Option.some.injEq] at e; exact .inr (by omega)), _, H3.out.kpt (T := fun b => b = w.heap.size) (Kpt.gr S3.out (Nat.le_refl _) fun k e => by simp only [Option.some.injEq] at e; exact .inl e.symm) fun b hb e => ?_⟩
  have hq := hl2.out
  rcases hb with hb | hb | hb
  · omega
  · omega
  · rw [e] at hb
    exact hob3.out hb

end Go.Proofs.YtmjholcpajfldaaGreatDoor
