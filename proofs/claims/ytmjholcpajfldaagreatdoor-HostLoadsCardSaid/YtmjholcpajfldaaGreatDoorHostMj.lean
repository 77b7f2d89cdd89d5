/- The variables sorted by their names. No condition. -/
import Derived.Test.YtmjholcpajfldaaGreatDoorHostMi
import Derived.Test.YtmjholcpajfldaaGreatDoorShelfB
namespace Go.Proofs.YtmjholcpajfldaaGreatDoor
open Go.RowKit
set_option linter.unusedVariables false
set_option linter.unusedSimpArgs false

set_option maxRecDepth 100000
open Go.Proofs Go.Shelf Go.Lib Go.Sort

theorem isAgg77 (w : World) : (isAgg 77).run Tryz.prog w = .ok true w := by kernel_rfl
theorem sizeOf77 (w : World) : (Go.sizeOf 77).run Tryz.prog w = .ok 2 w := by kernel_rfl
/-- a variable's two cells -/
def encN (x : ByteArray × Int) : List Value := [.string x.1, .int .u32 x.2]
def cmpV (x y : ByteArray × Int) : Int := cmpN x.1 y.1
theorem closure33 (a b : ByteArray) (x y : Int) (w : World) : Calls Tryz.prog 33 #[.agg #[.string a, .int .u32 x], .agg #[.string b, .int .u32 y]] w fun e w' => e = .returned (.int .i64 (cmpN a b)) ∧ ∃ q os', w' = grow (w.drewN q) os' := by
  have hc := fun w => cmp34 a b w
  generalize cmpN a b = z at *
  go_enter Tryz.func33, Tryz.ntmps33
  go_wp2_with (go_at_call 34; refine (hc _).mono ?_; rintro e w1 ⟨rfl, rfl⟩)
  go_ret
  exact ⟨rfl, 0, _, by rw [alloc_eq_grow, alloc_eq_grow, grow_grow]; rfl⟩
theorem ltV (x y : ByteArray × Int) : ltOf cmpV x y = Op.bytesLess x.1.toList y.1.toList := by
  unfold ltOf cmpV cmpN
  cases h1 : Op.bytesLess x.1.toList y.1.toList
  · cases h2 : Op.bytesLess y.1.toList x.1.toList <;> simp
  · simp
theorem swoV : SWO (ltOf cmpV) where
  irrefl x := by rw [ltV]; exact less_irr _
  trans x y z h1 h2 := by rw [ltV] at *; exact less_trans _ _ _ h1 h2
  ntrans x y z h1 h2 := by
    rw [ltV] at *
    cases h3 : Op.bytesLess x.1.toList z.1.toList
    · rfl
    · rcases less_yes h1 with h | ⟨_, h⟩
      · rw [less_trans _ _ _ h h3] at h2; cases h2
      · rw [eq_of_beq h, h3] at h2; cases h2
theorem cmpLays33 (blk off size : Nat) (w : World) : CmpLays Tryz.prog 33 #[] encN 2 cmpV blk off size w := by
  intro m os dk hs x y
  exact closure33 x.1 y.1 x.2 y.2 _
theorem sort32 (blk off cap : Nat) (d : Array (ByteArray × Int)) (w : World) (hH : HoldsK encN 2 w blk off d) (hblk : blk < w.heap.size) (hsz : d.size < 4611686018427387904) :
    Calls Tryz.prog 32 #[.slice (some ⟨blk, off, none⟩) d.size cap, .func (.func 33) #[] #[]] w fun e w' => e = .returned (.tuple #[]) ∧ ∃ d' n os, PermIn 0 d.size d d' ∧ SortedIn (ltOf cmpV) 0 d.size d' ∧ w' = sortWorldK encN 2 w blk off n d' os := by
  have eg : ∀ args w, (callFunc 33 args).run Tryz.prog w = .ok (.enter 33 args) w := enters_of Tryz.func33 (by kernel_rfl) rfl
  have hcon := AnyQ.slices_SortFunc Tryz.sortL 2 isAgg77 sizeOf77 encN (fun _ => rfl) (fun x v hv => by simp [encN] at hv; rcases hv with rfl | rfl <;> rfl) cmpV swoV 33 #[] blk off cap d w eg (cmpLays33 blk off d.size w) hH hblk hsz
  change Calls Tryz.prog 32 _ _ _ at hcon
  exact hcon

end Go.Proofs.YtmjholcpajfldaaGreatDoor
