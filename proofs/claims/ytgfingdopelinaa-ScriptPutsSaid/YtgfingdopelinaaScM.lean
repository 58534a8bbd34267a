/- numbers as bytes, seven bits each: what is put is read, and what is read was put. Plain. -/
namespace Go.Proofs.Ytgfingdopelinaa

/-- the bytes of a number. -/
def putN (v : Nat) : List Nat := if v < 128 then [v] else (v % 128 + 128) :: putN (v / 128)
termination_by v
theorem putN_small {v : Nat} (h : v < 128) : putN v = [v] := by rw [putN, if_pos h]
theorem putN_big {v : Nat} (h : ¬ v < 128) : putN v = (v % 128 + 128) :: putN (v / 128) := by rw [putN, if_neg h]
theorem putN_lt (v : Nat) : ∀ x ∈ putN v, x < 256 := by
  induction v using Nat.strongRecOn with
  | _ v ih =>
    by_cases h : v < 128
    · rw [putN_small h]; intro x hx; simp at hx; omega
    · rw [putN_big h]
      intro x hx
      rcases List.mem_cons.1 hx with h1 | h1
      · omega
      · exact ih (v / 128) (by omega) x h1
theorem putN_pos (v : Nat) : 1 ≤ (putN v).length := by
  by_cases h : v < 128
  · rw [putN_small h]; simp
  · rw [putN_big h]; simp
theorem putN_len (k v : Nat) (hv : v < 2 ^ (7 * k)) (hk : 1 ≤ k) : (putN v).length ≤ k := by
  induction k generalizing v with
  | zero => omega
  | succ k ih =>
    by_cases h : v < 128
    · rw [putN_small h]; simp
    · rw [putN_big h]
      have hk1 : 1 ≤ k := by
        rcases k with _ | k
        · simp at hv; omega
        · omega
      have e : 2 ^ (7 * (k + 1)) = 128 * 2 ^ (7 * k) := by rw [show 7 * (k + 1) = 7 + 7 * k by omega, Nat.pow_add]
      have : v / 128 < 2 ^ (7 * k) := by rw [e] at hv; omega
      have := ih (v / 128) this hk1
      simp; omega
theorem putN_len10 (v : Nat) (hv : v < 18446744073709551616) : (putN v).length ≤ 10 := putN_len 10 v (by omega) (by omega)

/-- the number that bytes begin with, from the i-th of its bytes on: it, how many bytes it has, the error. -/
def rdN : Nat → Nat → List Nat → Nat × Nat × Nat
  | _, _, [] => (0, 0, 10)
  | i, acc, x :: t => if (i = 9 ∧ 1 < x) ∨ (x < 128 ∧ x = 0 ∧ 0 < i) then (0, 0, 11) else if x < 128 then (acc + x * 2 ^ (7 * i), i + 1, 0) else rdN (i + 1) (acc + x % 128 * 2 ^ (7 * i)) t

theorem p7 (i : Nat) : 2 ^ (7 * (i + 1)) = 128 * 2 ^ (7 * i) := by rw [show 7 * (i + 1) = 7 + 7 * i by omega, Nat.pow_add]
theorem split128 (v p : Nat) : v % 128 * p + v / 128 * (128 * p) = v * p := by
  rw [← Nat.mul_assoc, ← Nat.add_mul]
  congr 1
  omega

theorem rdN_put (i acc v : Nat) (t : List Nat) (hi : i ≤ 9) (h0 : 0 < i → 0 < v) (hv : v * 2 ^ (7 * i) < 18446744073709551616) :
    rdN i acc (putN v ++ t) = (acc + v * 2 ^ (7 * i), i + (putN v).length, 0) := by
  induction v using Nat.strongRecOn generalizing i acc with
  | _ v ih =>
    have h9 : i = 9 → v ≤ 1 := by
      rintro rfl
      have : (2 : Nat) ^ (7 * 9) = 9223372036854775808 := by decide
      rw [this] at hv; omega
    by_cases h : v < 128
    · rw [putN_small h]
      simp only [List.cons_append, List.nil_append, rdN]
      rw [if_neg (by omega), if_pos h]
      simp
    · rw [putN_big h]
      have hi9 : i ≠ 9 := fun e => by have := h9 e; omega
      simp only [List.cons_append, rdN]
      rw [if_neg (by omega), if_neg (by omega)]
      have e1 : (v % 128 + 128) % 128 = v % 128 := by omega
      have e2 := split128 v (2 ^ (7 * i))
      rw [e1, ih (v / 128) (by omega) (i + 1) _ (by omega) (fun _ => by omega) (by rw [p7]; have := Nat.le_add_left (v / 128 * (128 * 2 ^ (7 * i))) (v % 128 * 2 ^ (7 * i)); omega)]
      rw [p7, List.length_cons]
      simp only [Prod.mk.injEq, and_true]
      exact ⟨by omega, by omega⟩

theorem rdN_read (bs : List Nat) : ∀ (i acc v n : Nat), i ≤ 9 → acc < 2 ^ (7 * i) → (∀ x ∈ bs, x < 256) → rdN i acc bs = (v, n, 0) →
    ∃ m, bs = putN m ++ bs.drop (n - i) ∧ v = acc + m * 2 ^ (7 * i) ∧ n = i + (putN m).length ∧ v < 18446744073709551616 ∧ (0 < i → 0 < m) := by
  induction bs with
  | nil => intro i acc v n _ _ _ h; simp [rdN] at h
  | cons x t ih =>
    intro i acc v n hi ha hb h
    simp only [rdN] at h
    by_cases h1 : (i = 9 ∧ 1 < x) ∨ (x < 128 ∧ x = 0 ∧ 0 < i)
    · rw [if_pos h1] at h; simp at h
    · rw [if_neg h1] at h
      have h2p : (2 : Nat) ^ (7 * i) ≤ 9223372036854775808 := by
        have : (2 : Nat) ^ (7 * i) ≤ 2 ^ (7 * 9) := Nat.pow_le_pow_right (by decide) (by omega)
        have e : (2 : Nat) ^ (7 * 9) = 9223372036854775808 := by decide
        omega
      by_cases h2 : x < 128
      · rw [if_pos h2] at h
        simp only [Prod.mk.injEq, and_true] at h
        obtain ⟨rfl, rfl⟩ := h
        refine ⟨x, ?_, rfl, ?_, ?_, by omega⟩
        · rw [putN_small h2, show i + 1 - i = 1 by omega]; rfl
        · rw [putN_small h2]; rfl
        · have hx : x * 2 ^ (7 * i) + 2 ^ (7 * i) = (x + 1) * 2 ^ (7 * i) := by rw [Nat.add_mul, Nat.one_mul]
          by_cases h9 : i = 9
          · subst h9
            have : x ≤ 1 := by omega
            have e : (2 : Nat) ^ (7 * 9) = 9223372036854775808 := by decide
            rw [e] at ha ⊢
            omega
          · have hp8 : (2 : Nat) ^ (7 * i) ≤ 72057594037927936 := by
              have : (2 : Nat) ^ (7 * i) ≤ 2 ^ (7 * 8) := Nat.pow_le_pow_right (by decide) (by omega)
              have e : (2 : Nat) ^ (7 * 8) = 72057594037927936 := by decide
              omega
            have : (x + 1) * 2 ^ (7 * i) ≤ 128 * 72057594037927936 := Nat.mul_le_mul (by omega) hp8
            omega
      · rw [if_neg h2] at h
        have hx := hb x (List.mem_cons_self ..)
        have hi9 : i ≠ 9 := by intro e; apply h1; left; omega
        have hm : x % 128 * 2 ^ (7 * i) + 2 ^ (7 * i) ≤ 128 * 2 ^ (7 * i) := by
          rw [show x % 128 * 2 ^ (7 * i) + 2 ^ (7 * i) = (x % 128 + 1) * 2 ^ (7 * i) by rw [Nat.add_mul, Nat.one_mul]]
          exact Nat.mul_le_mul_right _ (by omega)
        obtain ⟨m, e1, e2, e3, e4, e5⟩ := ih (i + 1) _ v n (by omega) (by rw [p7]; omega) (fun y hy => hb y (List.mem_cons_of_mem _ hy)) h
        have hm0 := e5 (by omega)
        have hmx : (m * 128 + x % 128) % 128 = x % 128 := by omega
        have hmd : (m * 128 + x % 128) / 128 = m := by omega
        refine ⟨m * 128 + x % 128, ?_, ?_, ?_, e4, by omega⟩
        · rw [putN_big (by omega), hmx, hmd, show x % 128 + 128 = x by omega, List.cons_append]
          congr 1
          rw [show n - i = (n - (i + 1)) + 1 by omega, List.drop_succ_cons]
          exact e1
        · rw [e2, p7, Nat.add_mul, Nat.mul_assoc]; omega
        · rw [putN_big (by omega), hmx, hmd, List.length_cons]; omega
/-- from the beginning on. -/
theorem rd_put (v : Nat) (t : List Nat) (hv : v < 18446744073709551616) : rdN 0 0 (putN v ++ t) = (v, (putN v).length, 0) := by
  have := rdN_put 0 0 v t (by omega) (by omega) (by simpa using hv)
  simpa using this
theorem rd_read {bs : List Nat} {v n : Nat} (hb : ∀ x ∈ bs, x < 256) (h : rdN 0 0 bs = (v, n, 0)) : bs = putN v ++ bs.drop n ∧ n = (putN v).length ∧ v < 18446744073709551616 := by
  obtain ⟨m, e1, e2, e3, e4, _⟩ := rdN_read bs 0 0 v n (by omega) (by simp) hb h
  simp at e2
  subst e2
  exact ⟨by simpa using e1, by omega, e4⟩
theorem rd_code (bs : List Nat) : ∀ i acc, (rdN i acc bs).2.2 = 0 ∨ (rdN i acc bs).1 = 0 ∧ (rdN i acc bs).2.1 = 0 := by
  induction bs with
  | nil => intro i acc; simp [rdN]
  | cons x t ih =>
    intro i acc
    simp only [rdN]
    split
    · simp
    · split
      · simp
      · exact ih _ _
theorem rd_len {bs : List Nat} {v n : Nat} (hb : ∀ x ∈ bs, x < 256) (h : rdN 0 0 bs = (v, n, 0)) : 1 ≤ n ∧ n ≤ bs.length := by
  obtain ⟨h1, h2, _⟩ := rd_read hb h
  have h3 := putN_pos v
  have : bs.length = (putN v).length + (bs.drop n).length := by rw [← List.length_append, ← h1]
  simp at this
  omega
end Go.Proofs.Ytgfingdopelinaa
