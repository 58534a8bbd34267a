/- the gate's constructors. -/
import Derived.Test.YtjmooohhndjmiaaGat
import Derived.Deep.CutBlock
import Derived.Deep.DeepCutAuto
namespace Go.Proofs.Ytjmooohhndjmiaa
set_option linter.unusedVariables false
set_option linter.unusedSimpArgs false
open Go.RowKit Go.Deep

/-- an operation that was begun. -/
def GBeg (w : World) (A M C kind k v : Nat) (r : Ending) (w' : World) : Prop :=
  ∃ bo, r = .returned (.pointer (some ⟨bo, 0, none⟩)) ∧ w.heap.size ≤ bo ∧ Blk w' bo 88 (gCells A M C kind k 0 0 v 0) ∧ Below w.heap.size w w'
theorem GBeg.from {w w1 w' : World} {A M C kind k v : Nat} {r : Ending} (h : GBeg w1 A M C kind k v r w') (hb : Below w.heap.size w w1) : GBeg w A M C kind k v r w' := by
  obtain ⟨bo, h1, h2, h3, h4⟩ := h
  exact ⟨bo, h1, Nat.le_trans hb.size h2, h3, bseq hb h4⟩
set_option maxHeartbeats 4000000 in
set_option maxRecDepth 100000 in
theorem gbegin_calls (A M C kind k v : Nat) (w : World) (hg : GOk A M C) (hk : k < M) :
    Calls Try.prog 44 #[.agg #[.int .i64 A, .int .i64 M, .int .i64 C], .int .i64 kind, .int .i64 k, .int .u64 v] w fun r w' => GBeg w A M C kind k v r w' := by
  have HW := fun w => Lib.hid (gword_calls A M C k w hg hk)
  have HG := Lib.hid hg
  clear hg
  go_enter Try.func44, Try.ntmps44
  go_wp2_with fail
  refine (HW _).out.mono ?_; rintro e w2 ⟨rfl, hb2⟩
  have hbl : Blk ((w.alloc (.cells #[.int .i64 A, .int .i64 M, .int .i64 C] 25)).alloc (.cells #[.bool true, .int .i64 A, .int .i64 M, .int .i64 C, .int .i64 kind, .int .i64 k, .int .i64 0, .int .u64 0, .int .u64 v, .int .i64 0] 88)) (w.heap.size + 1) 88 (gCells A M C kind k 0 0 v 0) := by
    have h := Blk.new (w.alloc (.cells #[.int .i64 A, .int .i64 M, .int .i64 C] 25)) 88 (gCells A M C kind k 0 0 v 0)
    simpa [gCells] using h
  have HBL := Lib.hid (hbl.chg (chg_of_below (fun _ => False) hb2) (fun h => h))
  have HB2 := Lib.hid (bseq (bnew (bnew (Below.refl w.heap.size w) _) _) hb2)
  clear hbl hb2
  go_wp2
  go_ret
  exact ⟨w.heap.size + 1, rfl, Nat.le_succ _, HBL.out, HB2.out⟩
theorem gjoin_calls (A M C k : Nat) (w : World) (hg : GOk A M C) (hk : k < M) :
    Calls Try.prog 20 #[.agg #[.int .i64 A, .int .i64 M, .int .i64 C], .int .i64 k] w fun r w' => GBeg w A M C 0 k 0 r w' := by
  have HW := fun w => Lib.hid (gbegin_calls A M C 0 k 0 w hg hk)
  clear hg
  go_enter Try.func20, Try.ntmps20
  go_wp2_with fail
  refine (HW _).out.mono ?_; rintro e w2 hb
  obtain ⟨bo, rfl, h2, h3, h4⟩ := hb.from (bnew (Below.refl _ _) _)
  have HF := Lib.hid (And.intro h2 (And.intro h3 h4))
  clear hb h2 h3 h4
  go_wp2
  go_ret
  exact ⟨bo, rfl, HF.out⟩
theorem gleave_calls (A M C k : Nat) (w : World) (hg : GOk A M C) (hk : k < M) :
    Calls Try.prog 28 #[.agg #[.int .i64 A, .int .i64 M, .int .i64 C], .int .i64 k] w fun r w' => GBeg w A M C 1 k 0 r w' := by
  have HW := fun w => Lib.hid (gbegin_calls A M C 1 k 0 w hg hk)
  clear hg
  go_enter Try.func28, Try.ntmps28
  go_wp2_with fail
  refine (HW _).out.mono ?_; rintro e w2 hb
  obtain ⟨bo, rfl, h2, h3, h4⟩ := hb.from (bnew (Below.refl _ _) _)
  have HF := Lib.hid (And.intro h2 (And.intro h3 h4))
  clear hb h2 h3 h4
  go_wp2
  go_ret
  exact ⟨bo, rfl, HF.out⟩
theorem gleast_calls (A M C v : Nat) (w : World) (hg : GOk A M C) :
    Calls Try.prog 22 #[.agg #[.int .i64 A, .int .i64 M, .int .i64 C], .int .u64 v] w fun r w' => GBeg w A M C 2 0 v r w' := by
  have HW := fun w => Lib.hid (gbegin_calls A M C 2 0 v w hg hg.m1)
  clear hg
  go_enter Try.func22, Try.ntmps22
  go_wp2_with fail
  refine (HW _).out.mono ?_; rintro e w2 hb
  obtain ⟨bo, rfl, h2, h3, h4⟩ := hb.from (bnew (Below.refl _ _) _)
  have HF := Lib.hid (And.intro h2 (And.intro h3 h4))
  clear hb h2 h3 h4
  go_wp2
  go_ret
  exact ⟨bo, rfl, HF.out⟩
end Go.Proofs.Ytjmooohhndjmiaa
