/- the law's small known field. -/
import Derived.Test.YtpalehomjgbacaaC
import Derived.Test.YtpalehomjgbacaaOpen
namespace Go.Proofs.Ytpalehomjgbacaa
open Go.RowKit

theorem one_get (w : World) : Calls Try.prog 14 #[.agg #[.int .i64 8, .int .i64 4], .int .u64 43981] w fun e w' => e = .returned (.int .u64 11) ∧ Below w.heap.size w w' := by
  have h := get_calls 8 4 43981 w (by decide)
  have e : getF 8 4 43981 = 11 := by decide
  rw [e] at h
  exact h
theorem one_set (w : World) : Calls Try.prog 15 #[.agg #[.int .i64 8, .int .i64 4], .int .u64 43981, .int .u64 23] w fun e w' => e = .returned (.int .u64 42957) ∧ Below w.heap.size w w' := by
  have h := set_calls 8 4 43981 23 w (by decide)
  have e : setF 8 4 43981 23 = 42957 := by decide
  rw [e] at h
  exact h
theorem one_up (w : World) : Calls Try.prog 28 #[.int .u64 5] w fun e w' => e = .returned (.int .u64 8) ∧ w = w' := by
  have h := up_calls 5 w (by decide)
  have e : upN 5 = 8 := by decide
  rw [e] at h
  exact h
theorem one_log (w : World) : Calls Try.prog 27 #[.int .u64 9] w fun e w' => e = .returned (.int .i64 3) ∧ w = w' := by
  have h := log_calls 9 w (by decide)
  have e : Lib.bitLen 9 = 4 := by decide
  rw [e] at h
  exact h
theorem one_slot (w : World) : Calls Try.prog 19 #[.int .u64 11, .int .u64 8] w fun e w' => e = .returned (.int .u64 3) ∧ w = w' := slot_calls 11 8 w (by decide)

theorem one_calls (w : World) : Calls Try.prog 17 #[] w fun e w' => e = .returned (.bool true) ∧ Below w.heap.size w w' := by
  go_enter Try.func17, Try.ntmps17
  go_wp2_with fail
  refine (one_get _).mono ?_; rintro e w1 ⟨rfl, hb⟩
  obtain ⟨hc, hf⟩ := bcell hb
  have HB := Lib.hid hb; clear hb
  go_wp2_with fail
  refine (one_set _).mono ?_; rintro e w2 ⟨rfl, hb2⟩
  have HB2 := Lib.hid hb2; clear hb2
  go_wp2_with (first | (go_at_call 28; refine (one_up _).mono ?_; rintro e w' ⟨rfl, rfl⟩) | (go_at_call 27; refine (one_log _).mono ?_; rintro e w' ⟨rfl, rfl⟩) | (go_at_call 19; refine (one_slot _).mono ?_; rintro e w' ⟨rfl, rfl⟩))
  go_ret
  exact ⟨rfl, bseq (bseq (bnew (Below.refl _ _) _) HB.out) HB2.out⟩
end Go.Proofs.Ytpalehomjgbacaa
