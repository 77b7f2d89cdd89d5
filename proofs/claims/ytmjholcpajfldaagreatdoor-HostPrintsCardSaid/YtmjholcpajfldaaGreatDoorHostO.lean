/- Walks: Set, Get; four bytes of a word; a reply with a write. No condition. -/
import Derived.Test.YtmjholcpajfldaaGreatDoorHostN
namespace Go.Proofs.YtmjholcpajfldaaGreatDoor
open Go.RowKit
set_option linter.unusedVariables false
set_option linter.unusedSimpArgs false

set_option maxRecDepth 100000

theorem zero23 (w : World) : (zeroValue 23).run Tryz.prog w = .ok (.int .u32 0) w := by kernel_rfl
theorem len54 {w : World} {mb : Nat} {vs : List (ByteArray × Value)} (h : Mp w mb vs) (ty : TypeId) : (Builtin.len_ #[54] ty #[.map (some mb)]).run Tryz.prog w = .ok (.int .i64 vs.length) w := by
  obtain ⟨es, c, h1, h2⟩ := h
  have hl : es.size = vs.length := by simpa using congrArg List.length h2
  simp [Builtin.len_, run_underlying Tryz.underlying54, MapKept.run_getObj_map h1, goInt, Result.andThen, hl]
set_option maxHeartbeats 4000000 in
theorem set30_bad {w : World} {B h mb : Nat} {cv : Value} {con : List UInt8} {vs : List (ByteArray × Value)} {sd ck : Int} (hH : Ho w B h cv con mb vs sd ck) (s : ByteArray) (hs : s.size ≤ 1048576) (hn : nmB s = false) (v : Int) :
    Calls Tryz.prog 30 #[.pointer (some ⟨h, 0, none⟩), .string s, .int .u32 v] w fun e w' => e = .returned (.int .i64 172) ∧ Below w.heap.size w w' := by
  have c1 := hid (made21 hH)
  have c2 := hid (nameMay26 s hs w)
  rw [hn] at c2
  clear hH hn
  go_enter Tryz.func30, Tryz.ntmps30
  go_wp2_with (go_at_call 21; refine c1.out.mono ?_; rintro e w1 ⟨rfl, rfl⟩)
  refine c2.out.mono ?_
  rintro e w2 ⟨rfl, hb⟩
  have hB := hid hb
  clear hb c1 c2
  go_wp2_with fail
  go_ret
  exact ⟨rfl, hB.out⟩
set_option maxHeartbeats 4000000 in
theorem set30_new {w : World} {B h mb : Nat} {cv : Value} {con : List UInt8} {sd ck : Int} (hH : Ho w B h cv con mb [] sd ck) (s : ByteArray) (hs : s.size ≤ 1048576) (hn : nmB s = true) (v : Int) :
    Calls Tryz.prog 30 #[.pointer (some ⟨h, 0, none⟩), .string s, .int .u32 v] w fun e w' => e = .returned (.int .i64 0) ∧ Kpt (HT h mb cv) w.heap.size w w' ∧ Ho w' B h cv con mb [(s, .int .u32 v)] sd ck := by
  have c1 := hid (made21 hH)
  have c2 := hid (nameMay26 s hs w)
  rw [hn] at c2
  have HH := hid hH
  clear hH hn
  go_enter Tryz.func30, Tryz.ntmps30
  go_wp2_with (go_at_call 21; refine c1.out.mono ?_; rintro e w1 ⟨rfl, rfl⟩)
  refine c2.out.mono ?_
  rintro e w2 ⟨rfl, hb⟩
  have hB := hid hb
  have H2 := HH.out.below hb
  have d1 : w2.cell? ⟨h, 1, none⟩ = some (.map (some mb)) := by simpa using H2.bx.cell 1
  have hlk := H2.mp.lookup (P := Tryz.prog) Tryz.underlying54 Tryz.underlying9 s (.int .u32 0) (zero23 w2) true
  have hln := len54 H2.mp
  obtain ⟨w3, hup, hg, hsz, hm⟩ := H2.mp.update (P := Tryz.prog) Tryz.underlying54 Tryz.underlying9 s (.int .u32 v)
  have G3 := hid hg
  have M3 := hid hm
  have HH2 := hid H2
  simp only [getM, lookI, Option.map_none, Option.getD_none, Option.isSome_none, if_true, List.length_nil] at hlk hln
  clear hb c1 c2 H2 hg hm hsz
  go_wp2_with fail
  go_ret
  have hne := HH2.out.ne
  refine ⟨rfl, (Kpt.of (T := HT h mb cv) hB.out).trans (Kpt.gr G3.out hB.out.size fun k e => by simp only [Option.some.injEq] at e; exact .inl (.inr (.inl e.symm))), HH2.out.bx.on G3.out (fun e => by simp only [Option.some.injEq] at e; exact hne.1 e), HH2.out.own.kept G3.out (.inr hne.2.2), M3.out, HH2.out.lo, HH2.out.sd, HH2.out.ck, HH2.out.cl, by simp⟩
theorem get28_one {w : World} {B h mb : Nat} {cv : Value} {con : List UInt8} {sd ck : Int} (s : ByteArray) (v : Int) (hH : Ho w B h cv con mb [(s, .int .u32 v)] sd ck) :
    Calls Tryz.prog 28 #[.pointer (some ⟨h, 0, none⟩), .string s] w fun e w' => e = .returned (.tuple #[.int .u32 v, .int .i64 0]) ∧ w = w' := by
  have c1 := hid (made21 hH)
  have d1 : w.cell? ⟨h, 1, none⟩ = some (.map (some mb)) := by simpa using hH.bx.cell 1
  have hlk := hH.mp.lookup (P := Tryz.prog) Tryz.underlying54 Tryz.underlying9 s (.int .u32 0) (zero23 w) true
  have hg : getM s [(s, Value.int .u32 v)] = some (.int .u32 v) := by rw [getM_cons, if_pos ((Go.MapKept.bytes_beq s s).2 rfl)]
  rw [hg] at hlk
  simp only [Option.getD_some, Option.isSome_some, if_true] at hlk
  clear hH hg
  go_enter Tryz.func28, Tryz.ntmps28
  go_wp2_with (go_at_call 21; refine c1.out.mono ?_; rintro e w1 ⟨rfl, rfl⟩)
  go_ret2
  exact ⟨rfl, rfl⟩
theorem get28_nil {w : World} {B h mb : Nat} {cv : Value} {con : List UInt8} {sd ck : Int} (s : ByteArray) (hH : Ho w B h cv con mb [] sd ck) :
    Calls Tryz.prog 28 #[.pointer (some ⟨h, 0, none⟩), .string s] w fun e w' => e = .returned (.tuple #[.int .u32 0, .int .i64 172]) ∧ w = w' := by
  have c1 := hid (made21 hH)
  have d1 : w.cell? ⟨h, 1, none⟩ = some (.map (some mb)) := by simpa using hH.bx.cell 1
  have hlk := hH.mp.lookup (P := Tryz.prog) Tryz.underlying54 Tryz.underlying9 s (.int .u32 0) (zero23 w) true
  simp only [getM, lookI, Option.map_none, Option.getD_none, Option.isSome_none, if_true] at hlk
  clear hH
  go_enter Tryz.func28, Tryz.ntmps28
  go_wp2_with (go_at_call 21; refine c1.out.mono ?_; rintro e w1 ⟨rfl, rfl⟩)
  go_ret2
  exact ⟨rfl, rfl⟩

end Go.Proofs.YtmjholcpajfldaaGreatDoor
