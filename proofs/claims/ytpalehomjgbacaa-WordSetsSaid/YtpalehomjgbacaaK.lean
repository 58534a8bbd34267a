/- plain mathematics: what is set is got; fields that are apart do not touch one another. -/
import Derived.Test.YtpalehomjgbacaaH
namespace Go.Proofs.Ytpalehomjgbacaa

theorem get_set_same (a n : Int) (x v : Nat) (hx : x < 18446744073709551616) (hr : rightB a n = true) : getF a n (setF a n x v) = v &&& maxF a n := by
  obtain ⟨h1, h2, h3, h4⟩ := (right_iff a n).1 hr
  simp only [getF, setF, maxF, hr, if_true]
  apply Nat.eq_of_testBit_eq
  intro i
  rw [get_bit, setN_bit _ _ _ _ _ hx (by omega), Nat.testBit_and, Nat.testBit_two_pow_sub_one]
  by_cases c : i < n.toNat
  · rw [if_pos ⟨by omega, by omega⟩]; simp [c]
  · simp [c]
theorem set_get_same (a n : Int) (x : Nat) (hx : x < 18446744073709551616) : setF a n x (getF a n x) = x := by
  unfold setF getF
  cases hr : rightB a n with
  | true =>
    obtain ⟨h1, h2, h3, h4⟩ := (right_iff a n).1 hr
    simp only [if_true]
    apply Nat.eq_of_testBit_eq
    intro i
    rw [setN_bit _ _ _ _ _ hx (by omega)]
    split
    · rename_i c
      rw [get_bit, show a.toNat + (i - a.toNat) = i by omega]
      simp; omega
    · rfl
  | false => simp
theorem and_zero_test {x y : Nat} (h : x &&& y = 0) (i : Nat) : ¬ (x.testBit i = true ∧ y.testBit i = true) := by
  rintro ⟨h1, h2⟩
  have : (x &&& y).testBit i = true := by rw [Nat.testBit_and, h1, h2]; rfl
  rw [h] at this
  simp at this
theorem get_set_other (a n b m : Int) (x v : Nat) (hx : x < 18446744073709551616) (hd : maskF a n &&& maskF b m = 0) : getF a n (setF b m x v) = getF a n x := by
  unfold getF setF
  cases hr : rightB a n with
  | false => simp
  | true =>
    cases hs : rightB b m with
    | false => simp
    | true =>
      obtain ⟨h1, h2, h3, h4⟩ := (right_iff a n).1 hr
      obtain ⟨g1, g2, g3, g4⟩ := (right_iff b m).1 hs
      simp only [if_true]
      simp only [maskF, hr, hs, if_true] at hd
      apply Nat.eq_of_testBit_eq
      intro i
      rw [get_bit, get_bit, setN_bit _ _ _ _ _ hx (by omega)]
      by_cases c : i < n.toNat
      · have := and_zero_test hd (a.toNat + i)
        rw [mask_bit, mask_bit] at this
        simp only [Bool.and_eq_true, decide_eq_true_eq] at this
        rw [if_neg (by omega)]
      · simp [c]
theorem apart_spec (l : List (List Int)) : ∀ m k u, apartU l m k u = true → ∀ i, k ≤ i → i < k + m →
    rightB (fA l i) (fB l i) = true ∧ u &&& maskF (fA l i) (fB l i) = 0 ∧ ∀ j, i < j → j < k + m → maskF (fA l i) (fB l i) &&& maskF (fA l j) (fB l j) = 0
  | 0, k, u, _, i, h1, h2 => by omega
  | m + 1, k, u, h, i, h1, h2 => by
    rw [apartU] at h
    simp only [Bool.and_eq_true, beq_iff_eq] at h
    obtain ⟨⟨hr, hu⟩, hm⟩ := h
    have ih := apart_spec l m (k + 1) _ hm
    have key : ∀ i, k + 1 ≤ i → i < k + 1 + m → u &&& maskF (fA l i) (fB l i) = 0 ∧ maskF (fA l k) (fB l k) &&& maskF (fA l i) (fB l i) = 0 := by
      intro i h1 h2
      have := (ih i h1 h2).2.1
      rw [Nat.and_or_distrib_right] at this
      exact Nat.or_eq_zero_iff.1 this
    rcases Nat.lt_or_ge k i with hk | hk
    · have := ih i (by omega) (by omega)
      exact ⟨this.1, (key i (by omega) (by omega)).1, fun j h3 h4 => this.2.2 j h3 (by omega)⟩
    · obtain rfl : i = k := by omega
      exact ⟨hr, hu, fun j h3 h4 => (key j (by omega) (by omega)).2⟩
theorem pack_lt (l v : List (List Int)) : ∀ m k x, x < 18446744073709551616 → packU l v m k x < 18446744073709551616
  | 0, _, _, h => h
  | m + 1, k, _, h => pack_lt l v m (k + 1) _ (setF_lt _ _ _ _ h)
theorem pack_get (l v : List (List Int)) (i n : Nat) (hi : rightB (fA l i) (fB l i) = true) (hd : ∀ j, j ≠ i → j < n → maskF (fA l i) (fB l i) &&& maskF (fA l j) (fB l j) = 0) :
    ∀ m k x, x < 18446744073709551616 → k + m ≤ n → getF (fA l i) (fB l i) (packU l v m k x) = if k ≤ i ∧ i < k + m then vN v i &&& maxF (fA l i) (fB l i) else getF (fA l i) (fB l i) x
  | 0, k, _, _, _ => by rw [if_neg (by omega)]; rfl
  | m + 1, k, x, hx, hk => by
    have ih := pack_get l v i n hi hd m (k + 1) (setF (fA l k) (fB l k) x (vN v k)) (setF_lt _ _ _ _ hx) (by omega)
    rw [packU, ih]
    rcases Nat.lt_trichotomy i k with h | h | h
    · rw [if_neg (by omega), if_neg (by omega), get_set_other _ _ _ _ _ _ hx (hd k (by omega) (by omega))]
    · subst h
      rw [if_neg (by omega), if_pos (by omega), get_set_same _ _ _ _ hx hi]
    · by_cases h2 : i < k + (m + 1)
      · rw [if_pos (by omega), if_pos (by omega)]
      · rw [if_neg (by omega), if_neg (by omega), get_set_other _ _ _ _ _ _ hx (hd k (by omega) (by omega))]
/-- What is packed into fields that are apart is got, each. -/
theorem pack_back (l v : List (List Int)) (len len' i : Nat) (h : apartU l len 0 0 = true) (hi : i < len) :
    rightB (fA l i) (fB l i) = true ∧ getF (fA l i) (fB l i) (packU l v (min len len') 0 0) = if i < len' then vN v i &&& maxF (fA l i) (fB l i) else 0 := by
  have hs := apart_spec l len 0 0 h
  have h1 := hs i (by omega) (by omega)
  refine ⟨h1.1, ?_⟩
  rw [pack_get l v i len h1.1 (fun j hj hjl => ?_) (min len len') 0 0 (by decide) (by omega)]
  · by_cases c : i < len'
    · rw [if_pos (by omega), if_pos c]
    · rw [if_neg (by omega), if_neg c]; simp [getF]
  · rcases Nat.lt_or_ge i j with c | c
    · exact h1.2.2 j c (by omega)
    · rw [Nat.and_comm]; exact (hs j (by omega) (by omega)).2.2 i (by omega) (by omega)
end Go.Proofs.Ytpalehomjgbacaa
