/- contracts of the word package's functions. -/
import Derived.Test.YtpalehomjgbacaaProg
import Derived.Test.YtpalehomjgbacaaM
import Derived.WalkKit
import Derived.Deep.QuietTactic
import Derived.BigQuiet
import Derived.KernelRfl
import Derived.Deep.RegionWith
import Derived.Deep.RegionHeld3
import Derived.WalkLawsBesides
namespace Go.Proofs.Ytpalehomjgbacaa
open Go.RowKit

theorem right_calls (a n : Int) (w : World) :
    Calls Try.prog 12 #[.agg #[.int .i64 a, .int .i64 n]] w fun e w' => e = .returned (.bool (rightB a n)) ∧ w' = w.alloc (.cells #[.int .i64 a, .int .i64 n] 23) := by
  unfold rightB
  by_cases h1 : 0 ≤ a
  · by_cases h2 : 1 ≤ n
    · by_cases h3 : a < 64
      · go_enter Try.func12, Try.ntmps12
        go_wp2
        go_ret
        exact ⟨by simp [h1, h2, h3], rfl⟩
      · go_enter Try.func12, Try.ntmps12
        go_wp2
        go_ret
        exact ⟨by simp; omega, rfl⟩
    · go_enter Try.func12, Try.ntmps12
      go_wp2
      go_ret
      exact ⟨by simp; omega, rfl⟩
  · go_enter Try.func12, Try.ntmps12
    go_wp2
    go_ret
    exact ⟨by simp; omega, rfl⟩

theorem ones_calls (n : Int) (w : World) (h1 : 1 ≤ n) (h2 : n ≤ 64) :
    Calls Try.prog 30 #[.int .i64 n] w fun e w' => e = .returned (.int .u64 ((2 ^ n.toNat - 1 : Nat) : Int)) ∧ w = w' := by
  go_enter Try.func30, Try.ntmps30
  go_wp2
  go_ret
  exact ⟨by rw [← ones_div_int n h1 h2]; rfl, rfl⟩

theorem max_calls (a n : Int) (w : World) :
    Calls Try.prog 13 #[.agg #[.int .i64 a, .int .i64 n]] w fun e w' => e = .returned (.int .u64 (maxF a n : Nat)) ∧
      w' = (w.alloc (.cells #[.int .i64 a, .int .i64 n] 23)).alloc (.cells #[.int .i64 a, .int .i64 n] 23) := by
  unfold maxF
  cases hb : rightB a n with
  | true =>
    obtain ⟨h1, h2, h3, h4⟩ := (right_iff a n).1 hb
    go_enter Try.func13, Try.ntmps13
    go_wp2_with (first | (go_at_call 12; refine (right_calls _ _ _).mono ?_; rintro e w' ⟨rfl, rfl⟩; simp only [hb]) | (go_at_call 30; refine (ones_calls _ _ (by omega) (by omega)).mono ?_; rintro e w' ⟨rfl, rfl⟩))
    go_ret
    exact ⟨rfl, rfl⟩
  | false =>
    go_enter Try.func13, Try.ntmps13
    go_wp2_with (first | (go_at_call 12; refine (right_calls _ _ _).mono ?_; rintro e w' ⟨rfl, rfl⟩; simp only [hb]) | (go_at_call 30; refine (ones_calls _ _ (by omega) (by omega)).mono ?_; rintro e w' ⟨rfl, rfl⟩))
    go_ret
    exact ⟨rfl, rfl⟩

theorem get_end (a n : Int) (x : Nat) (hx : x < 18446744073709551616) (h1 : 0 ≤ a) (h2 : 1 ≤ n) (h3 : a < 64) (h4 : n ≤ 64 - a) (hb : rightB a n = true) :
    Ending.returned (.int .u64 (bits BinOp.and IntKind.u64 ((x : Int) / 2 ^ a.toNat) (maxF a n : Nat))) = .returned (.int .u64 ((x : Int) / 2 ^ a.toNat % 2 ^ n.toNat)) := by
  have hm : maxF a n = 2 ^ n.toNat - 1 := by simp [maxF, hb]
  have hml : maxF a n < 18446744073709551616 := by
    have := maskN_lt 0 n.toNat (by omega)
    simpa [maskN, hm] using this
  have e : ((x : Int) / 2 ^ a.toNat) = ((x / 2 ^ a.toNat : Nat) : Int) := by simp
  rw [e, u64_and_nat _ _ (Nat.lt_of_le_of_lt (Nat.div_le_self _ _) hx) hml, hm, Nat.and_two_pow_sub_one_eq_mod]
  simp

theorem get_calls (a n : Int) (x : Nat) (w : World) (hx : x < 18446744073709551616) :
    Calls Try.prog 14 #[.agg #[.int .i64 a, .int .i64 n], .int .u64 x] w fun e w' => e = .returned (.int .u64 (getF a n x : Nat)) ∧ Below w.heap.size w w' := by
  unfold getF
  cases hb : rightB a n with
  | true =>
    obtain ⟨h1, h2, h3, h4⟩ := (right_iff a n).1 hb
    go_enter Try.func14, Try.ntmps14
    go_wp2_with (first | (go_at_call 12; refine (right_calls _ _ _).mono ?_; rintro e w' ⟨rfl, rfl⟩; simp only [hb]))
    go_region_with (first | (go_at_call 13; refine (max_calls _ _ _).mono ?_; rintro e w' ⟨rfl, rfl⟩))
    all_goals go_wp2
    all_goals go_ret
    all_goals exact ⟨get_end a n x hx h1 h2 h3 h4 hb, Below.drew (((((Below.refl _ _).alloc (Nat.le_refl _) _).alloc (by simp) _).alloc (by simp; omega) _).alloc (by simp; omega) _)⟩
  | false =>
    go_enter Try.func14, Try.ntmps14
    go_wp2_with (first | (go_at_call 12; refine (right_calls _ _ _).mono ?_; rintro e w' ⟨rfl, rfl⟩; simp only [hb]))
    go_ret
    exact ⟨rfl, ((Below.refl _ _).alloc (Nat.le_refl _) _).alloc (by simp) _⟩

theorem set_calls (a n : Int) (x v : Nat) (w : World) (hx : x < 18446744073709551616) :
    Calls Try.prog 15 #[.agg #[.int .i64 a, .int .i64 n], .int .u64 x, .int .u64 v] w fun e w' => e = .returned (.int .u64 (setF a n x v : Nat)) ∧ Below w.heap.size w w' := by
  cases hb : rightB a n with
  | true =>
    obtain ⟨h1, h2, h3, h4⟩ := (right_iff a n).1 hb
    go_enter Try.func15, Try.ntmps15
    go_wp2_with (first | (go_at_call 12; refine (right_calls _ _ _).mono ?_; rintro e w' ⟨rfl, rfl⟩; simp only [hb]))
    go_region_with (first | (go_at_call 13; refine (max_calls _ _ _).mono ?_; rintro e w' ⟨rfl, rfl⟩))
    all_goals go_wp2
    all_goals go_ret
    all_goals exact ⟨congrArg (fun z => Ending.returned (.int .u64 z)) (set_end a n x v hx hb), Below.drew (((((Below.refl _ _).alloc (Nat.le_refl _) _).alloc (by simp) _).alloc (by simp; omega) _).alloc (by simp; omega) _)⟩
  | false =>
    go_enter Try.func15, Try.ntmps15
    go_wp2_with (first | (go_at_call 12; refine (right_calls _ _ _).mono ?_; rintro e w' ⟨rfl, rfl⟩; simp only [hb]))
    go_ret
    exact ⟨by simp [setF, hb], ((Below.refl _ _).alloc (Nat.le_refl _) _).alloc (by simp) _⟩
end Go.Proofs.Ytpalehomjgbacaa
