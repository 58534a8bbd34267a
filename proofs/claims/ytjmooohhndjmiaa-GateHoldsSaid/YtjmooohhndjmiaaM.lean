/- plain mathematics of fields of words. -/
import Derived.Laws.BitsAllLaws
namespace Go.Proofs.Ytjmooohhndjmiaa

def rightB (a n : Int) : Bool := decide (0 ≤ a ∧ 1 ≤ n ∧ a < 64 ∧ n ≤ 64 - a)
def maxF (a n : Int) : Nat := if rightB a n then 2 ^ n.toNat - 1 else 0
def getF (a n : Int) (w : Nat) : Nat := if rightB a n then w / 2 ^ a.toNat % 2 ^ n.toNat else 0
def maskN (a n : Nat) : Nat := (2 ^ n - 1) * 2 ^ a
def setN (a n w v : Nat) : Nat := (w &&& (18446744073709551615 - maskN a n)) ||| ((v * 2 ^ a % 18446744073709551616) &&& maskN a n)
def setF (a n : Int) (w v : Nat) : Nat := if rightB a n then setN a.toNat n.toNat w v else w

theorem right_iff (a n : Int) : rightB a n = true ↔ 0 ≤ a ∧ 1 ≤ n ∧ a < 64 ∧ n ≤ 64 - a := by simp [rightB]

theorem ones_div (n : Nat) (h2 : n ≤ 64) : 18446744073709551615 / 2 ^ (64 - n) = 2 ^ n - 1 := by
  have e : (18446744073709551616 : Nat) = 2 ^ n * 2 ^ (64 - n) := by
    rw [← Nat.pow_add, show n + (64 - n) = 64 by omega]
  have p1 : 0 < 2 ^ n := Nat.two_pow_pos n
  have p2 : 0 < 2 ^ (64 - n) := Nat.two_pow_pos _
  rw [Nat.div_eq_iff p2]
  have : (2 ^ n - 1) * 2 ^ (64 - n) = 2 ^ n * 2 ^ (64 - n) - 2 ^ (64 - n) := by rw [Nat.sub_mul, Nat.one_mul]
  have h : 2 ^ (64 - n) ≤ 2 ^ n * 2 ^ (64 - n) := Nat.le_mul_of_pos_left _ p1
  omega

theorem xor_max : bits .xor .u64 IntKind.u64.max 0 = 18446744073709551615 := by decide
theorem ones_div_int (n : Int) (h1 : 1 ≤ n) (h2 : n ≤ 64) : bits .xor .u64 IntKind.u64.max 0 / 2 ^ (64 - n).toNat = ((2 ^ n.toNat - 1 : Nat) : Int) := by
  rw [xor_max]
  obtain ⟨m, rfl⟩ := Int.eq_ofNat_of_zero_le (show 0 ≤ n by omega)
  have := ones_div m (by omega)
  rw [show ((64 : Int) - (m : Nat)).toNat = 64 - m by omega]
  simp only [Int.toNat_natCast]
  rw [← this]; rfl

theorem maskN_lt (a n : Nat) (h : a + n ≤ 64) : maskN a n < 18446744073709551616 := by
  unfold maskN
  have e : (18446744073709551616 : Nat) = 2 ^ (a + n) * 2 ^ (64 - (a + n)) := by
    rw [← Nat.pow_add, show a + n + (64 - (a + n)) = 64 by omega]
  have e2 : 2 ^ (a + n) = 2 ^ n * 2 ^ a := by rw [← Nat.pow_add, Nat.add_comm]
  have p1 : 0 < 2 ^ n := Nat.two_pow_pos n
  have p2 : 0 < 2 ^ a := Nat.two_pow_pos _
  have p3 : 0 < 2 ^ (64 - (a + n)) := Nat.two_pow_pos _
  have : (2 ^ n - 1) * 2 ^ a = 2 ^ n * 2 ^ a - 2 ^ a := by rw [Nat.sub_mul, Nat.one_mul]
  have h : 2 ^ a ≤ 2 ^ n * 2 ^ a := Nat.le_mul_of_pos_left _ p1
  have h3 : 2 ^ (a + n) ≤ 2 ^ (a + n) * 2 ^ (64 - (a + n)) := Nat.le_mul_of_pos_right _ p3
  omega

theorem mask_bit (a n i : Nat) : (maskN a n).testBit i = (decide (a ≤ i) && decide (i < a + n)) := by
  unfold maskN
  rw [Nat.testBit_mul_two_pow]
  by_cases h : a ≤ i
  · simp [h, Nat.testBit_two_pow_sub_one]; omega
  · simp [h]

theorem setN_bit (a n w v i : Nat) (hw : w < 18446744073709551616) (h : a + n ≤ 64) :
    (setN a n w v).testBit i = if a ≤ i ∧ i < a + n then v.testBit (i - a) else w.testBit i := by
  unfold setN
  have e : (18446744073709551615 - maskN a n) = 2 ^ 64 - (maskN a n + 1) := by omega
  rw [Nat.testBit_or, Nat.testBit_and, Nat.testBit_and, e, Nat.testBit_two_pow_sub_succ (maskN_lt a n h), mask_bit,
    show (18446744073709551616 : Nat) = 2 ^ 64 from rfl, Nat.testBit_mod_two_pow, Nat.testBit_mul_two_pow]
  by_cases h1 : a ≤ i
  · by_cases h2 : i < a + n
    · have : i < 64 := by omega
      simp [h1, h2, this]
    · simp only [h1, h2, and_false, if_false, decide_false, Bool.and_false, Bool.or_false, Bool.not_false, Bool.and_true]
      by_cases h3 : i < 64
      · simp [h3]
      · have : w.testBit i = false := Nat.testBit_lt_two_pow (Nat.lt_of_lt_of_le hw (by rw [show (18446744073709551616 : Nat) = 2 ^ 64 from rfl]; exact Nat.pow_le_pow_right (by decide) (by omega)))
        simp [this]
  · simp only [h1, false_and, if_false, decide_false, Bool.false_and, Bool.and_false, Bool.or_false, Bool.not_false, Bool.and_true]
    by_cases h3 : i < 64
    · simp [h3]
    · omega

theorem lt_of_bits (x : Nat) (h : ∀ i, 64 ≤ i → x.testBit i = false) : x < 18446744073709551616 := by
  rw [show (18446744073709551616 : Nat) = 2 ^ 64 from rfl]
  exact Nat.lt_pow_two_of_testBit x h

theorem bit_ge (w i : Nat) (hw : w < 18446744073709551616) (h : 64 ≤ i) : w.testBit i = false :=
  Nat.testBit_lt_two_pow (Nat.lt_of_lt_of_le hw (by rw [show (18446744073709551616 : Nat) = 2 ^ 64 from rfl]; exact Nat.pow_le_pow_right (by decide) h))

theorem setN_lt (a n w v : Nat) (hw : w < 18446744073709551616) (h : a + n ≤ 64) : setN a n w v < 18446744073709551616 := by
  apply lt_of_bits
  intro i hi
  rw [setN_bit a n w v i hw h, if_neg (by omega)]
  exact bit_ge w i hw hi

theorem get_bit (a n w i : Nat) : (w / 2 ^ a % 2 ^ n).testBit i = (decide (i < n) && w.testBit (a + i)) := by
  rw [Nat.testBit_mod_two_pow, Nat.testBit_div_two_pow, Nat.add_comm]

/-- a bit as a number -/
def bitN (x i : Nat) : Nat := x / 2 ^ i % 2
theorem bitN_lt (x i : Nat) : bitN x i < 2 := Nat.mod_lt _ (by decide)
theorem bitN_test (x i : Nat) : bitN x i = (x.testBit i).toNat := by
  unfold bitN
  rw [Nat.testBit_eq_decide_div_mod_eq]
  have := Nat.mod_lt (x / 2 ^ i) (show 0 < 2 by decide)
  by_cases h : x / 2 ^ i % 2 = 1
  · simp [h]
  · simp [h]; omega
theorem bitN_congr {x y i j : Nat} (h : x.testBit i = y.testBit j) : bitN x i = bitN y j := by rw [bitN_test, bitN_test, h]
theorem div_step (x k : Nat) : 2 * (x / 2 ^ (k + 1)) + bitN x k = x / 2 ^ k := by
  unfold bitN
  rw [Nat.pow_succ, ← Nat.div_div_eq_div_mul]
  omega
theorem get_step (x a n k : Nat) (hk : k + 1 ≤ n) : 2 * (x / 2 ^ (a + (k + 1)) % 2 ^ (n - (k + 1))) + bitN x (a + k) = x / 2 ^ (a + k) % 2 ^ (n - k) := by
  have e : 2 ^ (n - k) = 2 * 2 ^ (n - (k + 1)) := by
    rw [Nat.mul_comm, ← Nat.pow_succ]; congr 1; omega
  have hd : 2 * (x / 2 ^ (a + (k + 1))) + bitN x (a + k) = x / 2 ^ (a + k) := div_step x (a + k)
  rw [e, ← hd]
  have hb := bitN_lt x (a + k)
  generalize 2 ^ (n - (k + 1)) = m
  generalize bitN x (a + k) = b at *
  generalize x / 2 ^ (a + (k + 1)) = q
  rw [Nat.mod_mul]
  have h1 : (2 * q + b) % 2 = b := by omega
  have h2 : (2 * q + b) / 2 = q := by omega
  rw [h1, h2]; omega
theorem set_step (a n w v k : Nat) (hw : w < 18446744073709551616) (h : a + n ≤ 64) :
    2 * (setN a n w v / 2 ^ (k + 1)) + (if a ≤ k ∧ k < a + n then bitN v (k - a) else bitN w k) = setN a n w v / 2 ^ k := by
  rw [← div_step (setN a n w v) k]
  congr 1
  have hb := setN_bit a n w v k hw h
  split
  · rename_i c; rw [if_pos c] at hb; exact (bitN_congr hb).symm
  · rename_i c; rw [if_neg c] at hb; exact (bitN_congr hb).symm
theorem get_lt (x a n : Nat) (h : n ≤ 64) : x / 2 ^ a % 2 ^ n < 18446744073709551616 :=
  Nat.lt_of_lt_of_le (Nat.mod_lt _ (Nat.two_pow_pos _)) (by rw [show (18446744073709551616 : Nat) = 2 ^ 64 from rfl]; exact Nat.pow_le_pow_right (by decide) h)
theorem top_get (a n : Nat) (h : a + n ≤ 64) : 18446744073709551615 / 2 ^ a % 2 ^ n = 2 ^ n - 1 := by
  apply Nat.eq_of_testBit_eq
  intro i
  rw [get_bit, Nat.testBit_two_pow_sub_one, show (18446744073709551615 : Nat) = 2 ^ 64 - 1 from rfl, Nat.testBit_two_pow_sub_one]
  by_cases h : i < n
  · simp [h]; omega
  · simp [h]

theorem maxF_lt (a n : Int) : maxF a n < 18446744073709551616 := by
  unfold maxF
  split
  · rename_i h
    obtain ⟨h1, h2, h3, h4⟩ := (right_iff a n).1 h
    have := maskN_lt 0 n.toNat (by omega)
    simpa [maskN] using this
  · decide
theorem wrap_nat (k : Nat) : IntKind.u64.wrap (k : Int) = ((k % 18446744073709551616 : Nat) : Int) := by rw [IntKind.wrap_u64]; rfl
theorem set_end (a n : Int) (x v : Nat) (hx : x < 18446744073709551616) (hb : rightB a n = true) :
    bits BinOp.or IntKind.u64 (bits BinOp.andNot IntKind.u64 (x : Int) (IntKind.u64.wrap ((maxF a n : Nat) * 2 ^ a.toNat)))
      (bits BinOp.and IntKind.u64 (IntKind.u64.wrap ((v : Int) * 2 ^ a.toNat)) (IntKind.u64.wrap ((maxF a n : Nat) * 2 ^ a.toNat))) = ((setF a n x v : Nat) : Int) := by
  obtain ⟨h1, h2, h3, h4⟩ := (right_iff a n).1 hb
  have hm : maxF a n = 2 ^ n.toNat - 1 := by simp [maxF, hb]
  have hml := maskN_lt a.toNat n.toNat (by omega)
  have e1 : IntKind.u64.wrap (((maxF a n : Nat) : Int) * 2 ^ a.toNat) = (maskN a.toNat n.toNat : Nat) := by
    rw [show (((maxF a n : Nat) : Int) * 2 ^ a.toNat) = ((maskN a.toNat n.toNat : Nat) : Int) by rw [hm]; unfold maskN; simp, wrap_nat, Nat.mod_eq_of_lt hml]
  have e2 : IntKind.u64.wrap ((v : Int) * 2 ^ a.toNat) = ((v * 2 ^ a.toNat % 18446744073709551616 : Nat) : Int) := by
    rw [show (v : Int) * 2 ^ a.toNat = ((v * 2 ^ a.toNat : Nat) : Int) by simp, wrap_nat]
  have h5 : v * 2 ^ a.toNat % 18446744073709551616 < 18446744073709551616 := Nat.mod_lt _ (by decide)
  rw [e1, e2, u64_andNot_nat _ _ hx hml, u64_and_nat _ _ h5 hml, u64_or_nat _ _ (Nat.lt_of_le_of_lt Nat.and_le_left hx) (Nat.lt_of_le_of_lt Nat.and_le_left h5)]
  simp [setF, hb, setN]
theorem setF_lt (a n : Int) (x v : Nat) (hx : x < 18446744073709551616) : setF a n x v < 18446744073709551616 := by
  unfold setF
  split
  · rename_i h
    obtain ⟨h1, h2, h3, h4⟩ := (right_iff a n).1 h
    exact setN_lt _ _ _ _ hx (by omega)
  · exact hx
theorem getF_lt (a n : Int) (x : Nat) : getF a n x < 18446744073709551616 := by
  unfold getF
  split
  · rename_i h
    obtain ⟨h1, h2, h3, h4⟩ := (right_iff a n).1 h
    exact get_lt _ _ _ (by omega)
  · decide
end Go.Proofs.Ytjmooohhndjmiaa
