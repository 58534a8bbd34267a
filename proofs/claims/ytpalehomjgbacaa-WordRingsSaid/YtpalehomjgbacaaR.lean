/- WordPowers, WordRings: the walks. -/
import Derived.Test.YtpalehomjgbacaaD
namespace Go.Proofs.Ytpalehomjgbacaa
open Go.RowKit

theorem u64n {z : Int} (h : (Lit.int .u64 z).wf = true) : ∃ n : Nat, z = n ∧ n < 18446744073709551616 := by
  simp only [Lit.wf, Bool.and_eq_true, decide_eq_true_eq] at h
  have h1 : (0 : Int) ≤ z := h.1
  have h2 : z ≤ 18446744073709551615 := h.2
  exact ⟨z.toNat, by omega, by omega⟩

theorem power_is (x : Nat) (w : World) (hx : x < 18446744073709551616) (b : Bool) (hb : (decide (0 < x) && decide (upN x = x)) = b) :
    Calls Try.prog 26 #[.int .u64 x] w fun e w' => e = .returned (.bool b) ∧ w = w' := by
  have h := power_calls x w hx
  rw [power_eq x hx, hb] at h
  exact h

theorem powers_calls (x : Nat) (w : World) (hx : x < 18446744073709551616) :
    Calls Try.prog 8 #[.int .u64 x] w fun e w' => e = .returned (.bool true) ∧ Below w.heap.size w w' := by
  rcases Nat.eq_zero_or_pos x with rfl | h0
  · rw [show ((0 : Nat) : Int) = 0 from rfl]
    go_enter Try.func8, Try.ntmps8
    go_wp2_with (first | (go_at_call 24; refine (rlog_calls 0 _ (by decide)).mono ?_; rintro e w' ⟨rfl, rfl⟩) | (go_at_call 26; refine (power_is 0 _ (by decide) false rfl).mono ?_; rintro e w' ⟨rfl, rfl⟩) | (go_at_call 27; refine (log_calls 0 _ (by decide)).mono ?_; rintro e w' ⟨rfl, rfl⟩) | (go_at_call 28; refine (up_calls 0 _ (by decide)).mono ?_; rintro e w' ⟨rfl, rfl⟩) | (go_at_call 25; refine (rup_calls 0 _ (by decide)).mono ?_; rintro e w' ⟨rfl, rfl⟩) | (go_at_call 17; refine (one_calls _).mono ?_; rintro e w1 ⟨rfl, hb⟩))
    go_ret
    exact ⟨rfl, hb⟩
  · have hpos : (0 : Int) < x := by omega
    by_cases hu : upN x = x
    · have hp := Lib.hid (show (decide (0 < x) && decide (upN x = x)) = true by simp [h0, hu])
      have HU := Lib.hid hu
      clear hu
      go_enter Try.func8, Try.ntmps8
      go_wp2_with (first | (go_at_call 24; refine (rlog_calls _ _ hx).mono ?_; rintro e w' ⟨rfl, rfl⟩) | (go_at_call 26; refine (power_is _ _ hx true hp.out).mono ?_; rintro e w' ⟨rfl, rfl⟩) | (go_at_call 27; refine (log_calls _ _ hx).mono ?_; rintro e w' ⟨rfl, rfl⟩) | (go_at_call 28; refine (up_calls _ _ hx).mono ?_; rintro e w' ⟨rfl, rfl⟩) | (go_at_call 25; refine (rup_calls _ _ hx).mono ?_; rintro e w' ⟨rfl, rfl⟩; rw [HU.out]) | (go_at_call 17; refine (one_calls _).mono ?_; rintro e w1 ⟨rfl, hb⟩))
      go_ret
      exact ⟨rfl, hb⟩
    · have hp := Lib.hid (show (decide (0 < x) && decide (upN x = x)) = false by simp [hu])
      have hne : (((upN x : Nat) : Int) == (x : Int)) = false := by rw [beq_eq_false_iff_ne]; omega
      clear hu
      go_enter Try.func8, Try.ntmps8
      go_wp2_with (first | (go_at_call 24; refine (rlog_calls _ _ hx).mono ?_; rintro e w' ⟨rfl, rfl⟩) | (go_at_call 26; refine (power_is _ _ hx false hp.out).mono ?_; rintro e w' ⟨rfl, rfl⟩) | (go_at_call 27; refine (log_calls _ _ hx).mono ?_; rintro e w' ⟨rfl, rfl⟩) | (go_at_call 28; refine (up_calls _ _ hx).mono ?_; rintro e w' ⟨rfl, rfl⟩) | (go_at_call 25; refine (rup_calls _ _ hx).mono ?_; rintro e w' ⟨rfl, rfl⟩) | (go_at_call 17; refine (one_calls _).mono ?_; rintro e w1 ⟨rfl, hb⟩))
      go_ret
      exact ⟨rfl, hb⟩

theorem wordPowers_walk (x : Int) (h : (Lit.int .u64 x).wf = true) (w : World) :
    Calls Try.prog 8 #[.int .u64 x] w fun e w' => e = .returned (.bool true) ∧ Below w.heap.size w w' := by
  obtain ⟨x, rfl, hx⟩ := u64n h
  exact powers_calls x w hx

theorem slot_at (p s q : Nat) (w : World) (hp : p < 18446744073709551616) (hs : ¬ s = 0) (hq : p % s = q) : Calls Try.prog 19 #[.int .u64 p, .int .u64 s] w fun e w' => e = .returned (.int .u64 q) ∧ w = w' := by
  have h := slot_calls p s w hp
  rw [if_neg hs, hq] at h
  exact h
theorem round_at (p s r : Nat) (w : World) (hp : p < 18446744073709551616) (hs : ¬ s = 0) (hr : p / s = r) : Calls Try.prog 20 #[.int .u64 p, .int .u64 s] w fun e w' => e = .returned (.int .u64 r) ∧ w = w' := by
  have h := round_calls p s w hp
  rw [if_neg hs, hr] at h
  exact h
theorem at_at (p s r q : Nat) (w : World) (hp : p < 18446744073709551616) (hs : ¬ s = 0) (hq : p % s = q) (hr : p / s = r) : Calls Try.prog 21 #[.int .u64 r, .int .u64 q, .int .u64 s] w fun e w' => e = .returned (.int .u64 p) ∧ w = w' := by
  have h := at_calls r q s w
  rw [if_neg hs, show (r * s + q) = p by rw [← hr, ← hq, Nat.mul_comm]; exact Nat.div_add_mod p s, Nat.mod_eq_of_lt hp] at h
  exact h

theorem rings_calls (p s k : Nat) (w : World) (hp : p < 18446744073709551616) (hk : k < 18446744073709551616) :
    Calls Try.prog 5 #[.int .u64 p, .int .u64 s, .int .u64 k] w fun e w' => e = .returned (.bool true) ∧ Below w.heap.size w w' := by
  by_cases h0 : s = 0
  · subst h0
    rw [show ((0 : Nat) : Int) = 0 from rfl]
    go_enter Try.func5, Try.ntmps5
    go_wp2_with (first | (go_at_call 19; refine (slot_calls p 0 _ hp).mono ?_; rintro e w' ⟨rfl, rfl⟩; simp only [if_true]) | (go_at_call 20; refine (round_calls p 0 _ hp).mono ?_; rintro e w' ⟨rfl, rfl⟩; simp only [if_true]) | (go_at_call 21; refine (at_calls p k 0 _).mono ?_; rintro e w' ⟨rfl, rfl⟩; simp only [if_true]) | (go_at_call 17; refine (one_calls _).mono ?_; rintro e w1 ⟨rfl, hb⟩))
    go_ret
    exact ⟨rfl, hb⟩
  · have hne : ((s : Int) == 0) = false := by rw [beq_eq_false_iff_ne]; omega
    obtain ⟨q, hq⟩ : ∃ q, p % s = q := ⟨_, rfl⟩
    obtain ⟨r, hr⟩ : ∃ r, p / s = r := ⟨_, rfl⟩
    have hlt : decide (s ≤ q) = false := by have := Nat.mod_lt p (show 0 < s by omega); simp; omega
    have HQ := Lib.hid hq
    have HR := Lib.hid hr
    have HP := Lib.hid hp
    have H0 := Lib.hid h0
    clear hq hr hp h0
    obtain ⟨c, hkk, hc⟩ : ∃ c : Nat, bits BinOp.and IntKind.u64 (k : Int) 255 = (c : Int) ∧ c < 256 := by
      have e := u64_and_nat k 255 hk (by decide)
      rw [show (255 : Nat) = 2 ^ 8 - 1 from rfl, Nat.and_two_pow_sub_one_eq_mod] at e
      exact ⟨_, e, Nat.mod_lt _ (by decide)⟩
    by_cases hsm : (s : Int) < 1099511627776
    · have hsm' : decide ((s : Int) < 1099511627776) = true := decide_eq_true hsm
      by_cases hpm : (p : Int) < 1152921504606846976
      · have hpm' : decide ((p : Int) < 1152921504606846976) = true := decide_eq_true hpm
        have hcs : c * s ≤ 255 * s := Nat.mul_le_mul_right _ (by omega)
        obtain ⟨m, hm⟩ : ∃ m, c * s = m := ⟨_, rfl⟩
        have hw1 : IntKind.u64.wrap ((c : Int) * (s : Int)) = (m : Int) := by
          rw [← Int.natCast_mul, hm, IntKind.wrap_u64]; omega
        obtain ⟨g, hg⟩ : ∃ g, p + m = g := ⟨_, rfl⟩
        have hw2 : IntKind.u64.wrap ((p : Int) + (m : Int)) = (g : Int) := by
          rw [IntKind.wrap_u64]; omega
        have hs0 : 0 < s := by have := H0.out; omega
        have HQ2 := Lib.hid (show g % s = q by rw [← hg, ← hm, Nat.add_mul_mod_self_right, HQ.out])
        have HR2 := Lib.hid (show g / s = r + c by rw [← hg, ← hm, Nat.add_mul_div_right _ _ hs0, HR.out])
        have HG := Lib.hid (show g < 18446744073709551616 by omega)
        have hr' : r ≤ p := by rw [← HR.out]; exact Nat.div_le_self _ _
        have hw3 : IntKind.u64.wrap ((r : Int) + (c : Int)) = ((r + c : Nat) : Int) := by
          rw [IntKind.wrap_u64]; omega
        obtain ⟨d, hd⟩ : ∃ d, r + c = d := ⟨_, rfl⟩
        rw [hd] at HR2 hw3
        clear hpm hsm hcs hm hg hs0 hr' hd hc
        go_enter Try.func5, Try.ntmps5
        go_wp2_with (first | (go_at_call 19; (with_reducible refine (slot_at p s q _ HP.out H0.out HQ.out).mono ?_); rintro e w' ⟨rfl, rfl⟩) | (go_at_call 20; (with_reducible refine (round_at p s r _ HP.out H0.out HR.out).mono ?_); rintro e w' ⟨rfl, rfl⟩) | (go_at_call 21; (with_reducible refine (at_at p s r q _ HP.out H0.out HQ.out HR.out).mono ?_); rintro e w' ⟨rfl, rfl⟩) | (go_at_call 17; refine (one_calls _).mono ?_; rintro e w1 ⟨rfl, hb⟩) | (go_at_call 19; (with_reducible refine (slot_at g s q _ HG.out H0.out HQ2.out).mono ?_); rintro e w' ⟨rfl, rfl⟩) | (go_at_call 20; (with_reducible refine (round_at g s d _ HG.out H0.out HR2.out).mono ?_); rintro e w' ⟨rfl, rfl⟩))
        go_ret
        exact ⟨rfl, hb⟩
      · have hpm' : decide ((p : Int) < 1152921504606846976) = false := decide_eq_false hpm
        clear hpm hsm
        go_enter Try.func5, Try.ntmps5
        go_wp2_with (first | (go_at_call 19; (with_reducible refine (slot_at p s q _ HP.out H0.out HQ.out).mono ?_); rintro e w' ⟨rfl, rfl⟩) | (go_at_call 20; (with_reducible refine (round_at p s r _ HP.out H0.out HR.out).mono ?_); rintro e w' ⟨rfl, rfl⟩) | (go_at_call 21; (with_reducible refine (at_at p s r q _ HP.out H0.out HQ.out HR.out).mono ?_); rintro e w' ⟨rfl, rfl⟩) | (go_at_call 17; refine (one_calls _).mono ?_; rintro e w1 ⟨rfl, hb⟩))
        go_ret
        exact ⟨rfl, hb⟩
    · have hsm' : decide ((s : Int) < 1099511627776) = false := decide_eq_false hsm
      clear hsm
      go_enter Try.func5, Try.ntmps5
      go_wp2_with (first | (go_at_call 19; (with_reducible refine (slot_at p s q _ HP.out H0.out HQ.out).mono ?_); rintro e w' ⟨rfl, rfl⟩) | (go_at_call 20; (with_reducible refine (round_at p s r _ HP.out H0.out HR.out).mono ?_); rintro e w' ⟨rfl, rfl⟩) | (go_at_call 21; (with_reducible refine (at_at p s r q _ HP.out H0.out HQ.out HR.out).mono ?_); rintro e w' ⟨rfl, rfl⟩) | (go_at_call 17; refine (one_calls _).mono ?_; rintro e w1 ⟨rfl, hb⟩))
      go_ret
      exact ⟨rfl, hb⟩

theorem wordRings_walk (p : Int) (hp : (Lit.int .u64 p).wf = true) (s : Int) (hs : (Lit.int .u64 s).wf = true) (k : Int) (hk : (Lit.int .u64 k).wf = true) (w : World) :
    Calls Try.prog 5 #[.int .u64 p, .int .u64 s, .int .u64 k] w fun e w' => e = .returned (.bool true) ∧ Below w.heap.size w w' := by
  obtain ⟨p, rfl, hp2⟩ := u64n hp
  obtain ⟨s, rfl, _⟩ := u64n hs
  obtain ⟨k, rfl, hk2⟩ := u64n hk
  exact rings_calls p s k w hp2 hk2
end Go.Proofs.Ytpalehomjgbacaa
