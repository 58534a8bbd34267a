/- the law's Begin. -/
import Derived.Test.YtjmooohhndjmiaaGatB
namespace Go.Proofs.Ytjmooohhndjmiaa
open Go.RowKit Go.Deep
set_option linter.unusedVariables false
set_option linter.unusedSimpArgs false

set_option maxHeartbeats 2000000 in
set_option maxRecDepth 100000 in
theorem gask_calls (A M C k v : Nat) (kind : Int) (w : World) (hg : GOk A M C) (hk : k < M) :
    Calls Try.prog 9 #[.agg #[.int .i64 A, .int .i64 M, .int .i64 C], .agg #[.int .i64 kind, .int .i64 k, .int .u64 v]] w fun r w' => GBeg w A M C (if kind = 0 then 0 else if kind = 1 then 1 else 2) (if kind = 0 ∨ kind = 1 then k else 0) (if kind = 0 ∨ kind = 1 then 0 else v) r w' := by
  by_cases h0 : kind = 0
  · subst h0
    simp only [true_or, if_true]
    have HW := fun w => Lib.hid (gjoin_calls A M C k w hg hk)
    clear hg
    go_enter Try.func9, Try.ntmps9
    go_wp2_with fail
    refine (HW _).out.mono ?_; rintro e w2 hb
    obtain ⟨bo, rfl, h2, h3, h4⟩ := hb.from (bnew (bnew (Below.refl _ _) _) _)
    have HF := Lib.hid (And.intro h2 (And.intro h3 h4))
    clear hb h2 h3 h4
    go_wp2
    go_ret
    exact ⟨bo, rfl, HF.out⟩
  · by_cases h1 : kind = 1
    · subst h1
      have e : ((1 : Int) = 0) = False := by simp
      simp only [e, or_true, if_true, if_false]
      have HW := fun w => Lib.hid (gleave_calls A M C k w hg hk)
      clear hg h0 e
      go_enter Try.func9, Try.ntmps9
      go_wp2_with fail
      refine (HW _).out.mono ?_; rintro e w2 hb
      obtain ⟨bo, rfl, h2, h3, h4⟩ := hb.from (bnew (bnew (Below.refl _ _) _) _)
      have HF := Lib.hid (And.intro h2 (And.intro h3 h4))
      clear hb h2 h3 h4
      go_wp2
      go_ret
      exact ⟨bo, rfl, HF.out⟩
    · rw [if_neg h0, if_neg h1, if_neg (by simp [h0, h1]), if_neg (by simp [h0, h1])]
      have HW := fun w => Lib.hid (gleast_calls A M C v w hg)
      have t0 : (kind == 0) = false := by rw [beq_eq_false_iff_ne]; exact h0
      have t1 : (kind == 1) = false := by rw [beq_eq_false_iff_ne]; exact h1
      clear hg h0 h1
      go_enter Try.func9, Try.ntmps9
      go_wp2_with fail
      refine (HW _).out.mono ?_; rintro e w2 hb
      obtain ⟨bo, rfl, h2, h3, h4⟩ := hb.from (bnew (bnew (Below.refl _ _) _) _)
      have HF := Lib.hid (And.intro h2 (And.intro h3 h4))
      clear hb h2 h3 h4
      go_wp2
      go_ret
      exact ⟨bo, rfl, HF.out⟩
end Go.Proofs.Ytjmooohhndjmiaa
