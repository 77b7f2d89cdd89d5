/- Walks: the law HostPrints. No condition. -/
import Derived.Test.YtmjholcpajfldaaGreatDoorHostPe
import Derived.Test.YtmjholcpajfldaaGreatDoorHostMd
import Derived.Test.YtmjholcpajfldaaGreatDoorHostR
import Derived.Test.YtmjholcpajfldaaGreatDoorHostS
namespace Go.Proofs.YtmjholcpajfldaaGreatDoor
open Go.RowKit
set_option linter.unusedVariables false
set_option linter.unusedSimpArgs false

set_option maxRecDepth 100000

theorem takeWhile_app {p : UInt8 → Bool} : ∀ (a b : List UInt8), (∀ x ∈ a, p x = true) → (∀ x, b.head? = some x → p x = false) → (a ++ b).takeWhile p = a
  | [], [], _, _ => rfl
  | [], y :: b, _, h => by simp [h y rfl]
  | x :: a, b, h1, h2 => by
    rw [List.cons_append, List.takeWhile_cons, h1 x List.mem_cons_self]
    simp only [if_true, List.cons.injEq, true_and]
    exact takeWhile_app a b (fun y hy => h1 y (List.mem_cons_of_mem _ hy)) h2
theorem txt_pl (s : ByteArray) (h : Pl s 0 s.size) (h2 : s.size ≤ 64) : (⟨(txt (padK s s.size)).toArray⟩ : ByteArray) = s := by
  have hl : s.data.toList.length = s.size := rfl
  have e1 : txt (padK s s.size) = s.data.toList := by
    unfold txt padK
    rw [List.take_of_length_le (by omega)]
    refine takeWhile_app _ _ (fun x hx => ?_) (fun x hx => ?_)
    · obtain ⟨i, hi, rfl⟩ := List.getElem_of_mem hx
      have := h i hi (Nat.zero_le _) hi
      simp only [bne_iff_ne, ne_eq]
      intro e
      have e2 : s[i] = 0 := e
      rw [e2] at this
      simp at this
    · have : 256 - s.size = (255 - s.size) + 1 := by omega
      rw [this, List.replicate_succ] at hx
      simp only [List.head?_cons, Option.some.injEq] at hx
      rw [← hx]
      rfl
  rw [e1]
/-- the places of a plain text -/
def plC (s : ByteArray) (h : Pl s 0 s.size) (i : Nat) : PC := if hi : i < s.size then ⟨(i, s[i]), by have := h i hi (Nat.zero_le _) hi; show 32 ≤ s[i].toNat ∧ s[i].toNat < 127; omega⟩ else ⟨(0, 65), by decide⟩
theorem plC_at (s : ByteArray) (h : Pl s 0 s.size) (i : Nat) (hi : i < s.size) : (plC s h i).1 = (i, s[i]) := by unfold plC; rw [dif_pos hi]
theorem PrintR.keep {B h mb : Nat} {cv : Value} {con : List UInt8} {vs : List (ByteArray × Value)} {sd ck : Int} {s : ByteArray} {v : Int} {r : Value} {w w' : World} {q : Nat} {cs : Array Value} (hR : PrintR B h mb cv con vs sd ck s v r w) (hbx : Bx w q cs 30) (hg : w.grownBy w' (some q)) : PrintR B h mb cv con vs sd ck s v r w' := by
  obtain ⟨h1, h2⟩ := hR
  refine ⟨h1, ?_⟩
  split at h2
  · rename_i hs; rw [if_pos hs]; exact ⟨h2.1, h2.2.choose, h2.2.choose_spec.keep30 hbx hg⟩
  · rename_i hs; rw [if_neg hs]; exact ⟨h2.1, h2.2.keep30 hbx hg⟩
set_option maxHeartbeats 16000000 in
theorem prints4 (co vo : Option Addr) (m n cc vc : Nat) (con : List UInt8) (hcl : con.length = m) (l : NW) (hl : l.length = n) (sd ck : Int) (s : ByteArray) (w : World) (hv : Vr w vo l) (hb : By w co con) (hm : m < 140737488355328) (hn : n * 24 ≤ 140737488355328) (h3 : 0 ≤ sd ∧ sd < 18446744073709551616) (h4 : 0 ≤ ck ∧ ck < 4294967296) (htab : ∀ w', Below w.heap.size w w' → TB w') :
    Calls Tryz.prog 4 #[.agg #[.slice co m cc, .slice vo n vc, .int .u64 sd, .int .u32 ck], .string s] w fun e w' => e = .returned (.bool true) ∧ Below w.heap.size w w' := by
  subst hcl
  subst hl
  have b0 := (Below.refl w.heap.size w).alloc (Nat.le_refl _) (.cells #[.slice co con.length cc, .slice vo l.length vc, .int .u64 sd, .int .u32 ck] 45)
  have X0 := hid (Bx.new w #[.slice co con.length cc, .slice vo l.length vc, .int .u64 sd, .int .u32 ck] 45)
  have V0 := hid hv
  have Y0 := hid hb
  have B0 := hid b0
  have cl := hid (lives8 _ (fun w' h' => htab w' (b0.trans (h'.mono b0.size))))
  have hSd := hid h3
  have hCk := hid h4
  clear b0 hv hb hm hn h3 h4 htab
  go_enter Tryz.func4, Tryz.ntmps4
  go_wp2_with fail
  generalize w.alloc (.cells #[.slice co con.length cc, .slice vo l.length vc, .int .u64 sd, .int .u32 ck] 45) = w1 at *
  refine cl.out.mono ?_
  clear cl
  rintro e w2 ⟨rfl, hb2⟩
  have X2 := hid (X0.out.below hb2)
  have B2 := hid (B0.out.trans (hb2.mono B0.out.size))
  have hlt2 := hid X2.out.lt
  clear X0 B0 hb2
  have w12 := hid (word12 s w2)
  have ld := hid (load13 co vo con.length l.length cc vc con rfl l rfl sd ck w2 (V0.out.below B2.out) (Y0.out.below B2.out) hSd.out hCk.out)
  have x0 := X2.out.cell 0
  have x1 := X2.out.cell 1
  have x2 := X2.out.cell 2
  have x3 := X2.out.cell 3
  simp only [List.getElem?_toArray, List.getElem?_cons_zero, List.getElem?_cons_succ] at x0 x1 x2 x3
  go_wp2_with fail
  refine w12.out.mono ?_
  clear w12
  rintro e w2' ⟨⟨x, p, er, rfl, hg⟩, rfl⟩
  have hG := hid hg
  clear hg
  go_wp2_with fail
  go_at_call 13
  refine ld.out.mono ?_
  clear ld x0 x1 x2 x3
  rintro e w3 ⟨hb3, hL⟩
  have X3 := hid (X2.out.below hb3)
  have B3 := hid (B2.out.trans (hb3.mono B2.out.size))
  have hz3 := hid hb3.size
  clear X2 B2 hb3
  cases hmy : mayB con l sd
  · obtain rfl := hL.2 hmy
    have my0 := may14 co vo _ _ cc vc con rfl l rfl sd ck w3 (V0.out.below B3.out)
    rw [hmy] at my0
    have my := hid my0
    clear my0 hL hmy hG
    have x0 := X3.out.cell 0
    have x1 := X3.out.cell 1
    have x2 := X3.out.cell 2
    have x3 := X3.out.cell 3
    simp only [List.getElem?_toArray, List.getElem?_cons_zero, List.getElem?_cons_succ] at x0 x1 x2 x3
    by_cases her : er = 0
    · subst her
      go_wp2_with fail
      go_at_call 14
      refine my.out.mono ?_
      clear my x0 x1 x2 x3
      rintro e w4 ⟨rfl, hb4⟩
      have B4 := hid (B3.out.trans (hb4.mono B3.out.size))
      clear hb4 B3
      go_wp2_with fail
      go_ret
      exact ⟨rfl, B4.out⟩
    · have e1 : (er = 0) = False := eq_false her
      have e2 : (er == 0) = false := by simp [her]
      clear her
      go_wp2_with fail
      go_at_call 14
      refine my.out.mono ?_
      clear my x0 x1 x2 x3
      rintro e w4 ⟨rfl, hb4⟩
      have B4 := hid (B3.out.trans (hb4.mono B3.out.size))
      clear hb4 B3
      go_wp2_with fail
      go_ret
      exact ⟨rfl, B4.out⟩
  · obtain ⟨h, cv, mb, rfl, hHo, hMb⟩ := hL.1 hmy
    have H3 := hid hHo
    clear hL hmy hHo hMb
    by_cases her : er = 0
    · obtain ⟨hs1, hs2, hpl⟩ := hG.out her
      have hP := hid hpl
      subst her
      clear hG hpl
      have hmk : (Instr.makeSlice 27 (.int .i64 256) (.int .i64 256)).run Tryz.prog w3 = .ok (.slice (some ⟨w3.heap.size, 0, none⟩) 256 256) (w3.alloc (.cells (Array.replicate 256 (.int .u8 0)) 5)) := by kernel_rfl
      have hp0 : (bv (padK s 0)).toArray = Array.replicate 256 (.int .u8 0) := by
        have : padK s 0 = List.replicate 256 0 := by simp [padK]
        rw [this]; exact bv_rep 256
      rw [← hp0] at hmk
      have X4 := hid (Bx.new w3 (bv (padK s 0)).toArray 5)
      have b4 := (Below.refl w3.heap.size w3).alloc (Nat.le_refl _) (.cells (bv (padK s 0)).toArray 5)
      have H4 := hid (H3.out.below b4)
      have B4 := hid (B3.out.trans (b4.mono B3.out.size))
      have hs4 : (w3.alloc (.cells (bv (padK s 0)).toArray 5)).heap.size = w3.heap.size + 1 := by simp
      have hne : Hid (∀ b, HT h mb cv b → b ≠ w3.heap.size) := hid fun b hb => by have := (H3.out.hlt b hb).2; omega
      have hgw := hid (show w.heap.size < w3.heap.size by have := hlt2.out; have := hz3.out; omega)
      clear hp0 b4 X3 B3 H3
      obtain ⟨w4, hw4⟩ : ∃ w4, w3.alloc (.cells (bv (padK s 0)).toArray 5) = w4 := ⟨_, rfl⟩
      rw [hw4] at hmk X4 H4 B4 hs4
      go_wp2_with fail
      clear hw4 hmk
      go_loopw [11] (fun i wr => ∃ (k : Nat), k ≤ s.size ∧ i = .int .i64 k ∧ Hid (Bx wr w3.heap.size (bv (padK s k)).toArray 5) ∧ Hid (w4.grownBy wr (some w3.heap.size))) (fun i _ => s.size - (intOf i).toNat)
      case atStart => exact ⟨0, by omega, rfl, X4, hid (grown_refl _ _)⟩
      case round =>
        obtain ⟨k, hk, rfl, hX, hG⟩ := hrel
        by_cases hlt : k < s.size
        · have e1 : ((k : Int) < (s.size : Int)) = True := eq_true (by omega)
          have hpl := padK_len s k hk (by omega)
          have q0 : ∃ u, wr.cell? ⟨w3.heap.size, k, none⟩ = some u := by
            rw [hX.out.cell k]
            exact ⟨_, Array.getElem?_eq_getElem (by simp [bv_len, hpl]; omega)⟩
          obtain ⟨u, q1⟩ := q0
          have f1 := hX.out.free k
          have hX2 := hid (hX.out.set k (.int .u8 (s[k].toNat : Int)))
          rw [padK_succ s k hlt (by omega)] at hX2
          have hG2 := hid (grown_trans hG.out (grown_set wr w3.heap.size k (.int .u8 (s[k].toNat : Int))))
          clear hpl
          go_wp2_with fail
          exact ⟨⟨k + 1, by omega, by go_num, hX2, hG2⟩, by simp only [intOf]; omega⟩
        · obtain rfl : k = s.size := by omega
          obtain ⟨L, hL⟩ : ∃ L, L = padK s s.size := ⟨_, rfl⟩
          have hll : L.length = 256 := by rw [hL]; exact padK_len s s.size (Nat.le_refl _) (by omega)
          have htx := hid (txt_pl s hP.out hs2)
          rw [← hL] at htx
          have X5 : Hid (Bx wr w3.heap.size (bv L).toArray 5) := by rw [hL]; exact hX
          have H5 : Hid (Ho wr w2.heap.size h cv con mb (vsA l) sd ck) := H4.out.kpt (T := fun b => b = w3.heap.size) (Kpt.gr hG.out (Nat.le_refl _) fun k e => by simp only [Option.some.injEq] at e; exact .inl e.symm) hne.out
          have B5 : Hid (Below w.heap.size w wr) := hid (B4.out.grown hG.out B4.out.size (fun k hk => by simp only [Option.some.injEq] at hk; have := hgw.out; omega))
          have e1 : ((s.size : Int) < (s.size : Int)) = False := eq_false (by omega)
          have hcl9 : con.length ≤ 4096 := H5.out.cl
          clear hX hG hL X4 H4 B4 hlt
          obtain ⟨S0, hS0⟩ : ∃ S0 : ByteArray, S0 = ⟨con.toArray⟩ := ⟨_, rfl⟩
          have hz0 : S0.size = con.length := by rw [hS0]; rfl
          have co0 := console15 H5.out
          rw [← hS0] at co0
          have c15 := hid co0
          have hS := hid hS0
          clear co0 hS0
          go_wp2_with fail
          refine c15.out.mono ?_
          clear c15
          rintro e w6 ⟨rfl, rfl⟩
          have ba := (Below.refl wr.heap.size wr).alloc (Nat.le_refl _) (.cells #[.int .u32 0] 23)
          have AA := Bx.new wr #[.int .u32 0] 23
          have HA := H5.out.below ba
          have XA := X5.out.below ba
          have BA := hid (B5.out.trans (ba.mono B5.out.size))
          have nab : ¬ HT h mb cv wr.heap.size := fun hb => by have := (H5.out.hlt _ hb).2; omega
          have hltb := hid HA.hlt
          have hB25 := hid (Nat.le_trans (Nat.le_of_lt hlt2.out) (Nat.le_trans hz3.out (Nat.le_of_lt (show w3.heap.size < wr.heap.size from X5.out.lt))))
          have cs := hid (answer9 w2.heap.size h mb cv con (vsA l) sd ck 0 (by omega) 16 rfl (some ⟨wr.heap.size, 0, none⟩) 1 1 (by decide) w3.heap.size L hll _ XA HA (PrintR w2.heap.size h mb cv con (vsA l) sd ck s) (enters_of Tryz.func37 (by kernel_rfl) rfl)
            (fun w1' q h1' hM hq => print37 (HA.below h1') q _ wr.heap.size L hM (AA.below h1') nab s htx.out (plC s hP.out) (plC_at s hP.out) hs1 hs2)
            (fun v r w2' w3' q a b hq hbx hg hR => hR.keep hbx hg))
          clear HA AA XA ba nab X5 H5 B5
          go_wp2_with fail
          refine cs.out.mono ?_
          clear cs
          rintro e w7 ⟨v7, ao7, m7, cp7, rfl, hk7, hrn, hr7⟩
          have B7 := hid (BA.out.trans (hk7.below BA.out.size (fun b hb => by have := (hltb.out b hb).1; have := hlt2.out; omega)))
          simp only [Value.slice.injEq] at hrn
          obtain ⟨rfl, rfl, rfl⟩ := hrn
          clear hk7 BA hltb hne hB25
          have hw1 : IntKind.i64.wrap ((S0.size : Int) + (s.size : Int)) = (S0.size : Int) + (s.size : Int) := IntWalk.i64_in _ (by omega)
          have hw2 : IntKind.u32.wrap (s.size : Int) = (s.size : Int) := by rw [IntKind.wrap_u32]; omega
          by_cases hroom : con.length + s.size ≤ 4096
          · rw [if_pos hroom] at hr7
            obtain ⟨rfl, cv2, hH7⟩ := hr7
            have be := (Below.refl w7.heap.size w7).alloc (Nat.le_refl _) (.cells #[.int .u32 (s.size : Int), .slice none 0 0] 30)
            have E8 := Bx.new w7 #[.int .u32 (s.size : Int), .slice none 0 0] 30
            have B8 := hid (B7.out.trans (be.mono B7.out.size))
            have co8 := console15 (hH7.below be)
            have hcat : (⟨(con ++ s.data.toList).toArray⟩ : ByteArray) = S0 ++ s := by
              rw [hS.out]
              apply ByteArray.ext
              simp [ByteArray.data_append]
            rw [hcat] at co8
            have c8 := hid co8
            have z0 := E8.cell 0
            have z1 := E8.cell 1
            simp only [List.getElem?_toArray, List.getElem?_cons_zero, List.getElem?_cons_succ] at z0 z1
            have hlim : ((4096 : Int) < (S0.size : Int) + (s.size : Int)) = False := eq_false (by omega)
            have hbig : S0.size ≤ 1048576 := by omega
            clear be E8 B7 co8 hH7 hcat
            go_wp2_with fail
            refine c8.out.mono ?_
            clear c8
            rintro e w9 ⟨rfl, rfl⟩
            go_wp2_with fail
            go_ret
            exact ⟨rfl, B8.out⟩
          · rw [if_neg hroom] at hr7
            obtain ⟨rfl, hH7⟩ := hr7
            have be := (Below.refl w7.heap.size w7).alloc (Nat.le_refl _) (.cells #[.int .u32 4294967295, .slice none 0 0] 30)
            have E8 := Bx.new w7 #[.int .u32 4294967295, .slice none 0 0] 30
            have B8 := hid (B7.out.trans (be.mono B7.out.size))
            have co8 := console15 (hH7.below be)
            rw [← hS.out] at co8
            have c8 := hid co8
            have z0 := E8.cell 0
            have z1 := E8.cell 1
            simp only [List.getElem?_toArray, List.getElem?_cons_zero, List.getElem?_cons_succ] at z0 z1
            have hlim : ((4096 : Int) < (S0.size : Int) + (s.size : Int)) = True := eq_true (by omega)
            clear be E8 B7 co8 hH7
            go_wp2_with fail
            refine c8.out.mono ?_
            clear c8
            rintro e w9 ⟨rfl, rfl⟩
            go_wp2_with fail
            go_ret
            exact ⟨rfl, B8.out⟩
    · have e1 : (er = 0) = False := eq_false her
      have e2 : (er == 0) = false := by simp [her]
      clear her hG
      go_wp2_with fail
      go_ret
      exact ⟨rfl, B3.out⟩

end Go.Proofs.YtmjholcpajfldaaGreatDoor
