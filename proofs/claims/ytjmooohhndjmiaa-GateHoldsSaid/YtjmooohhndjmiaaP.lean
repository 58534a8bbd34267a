/- plain mathematics of powers of two: counts of ones, lengths, the next power. -/
import Derived.Test.YtjmooohhndjmiaaM
import Derived.Lib.BitFns
namespace Go.Proofs.Ytjmooohhndjmiaa

theorem and_split (q b p c : Nat) (hb : b < 256) (hc : c < 256) : (256 * q + b) &&& (256 * p + c) = 256 * (q &&& p) + (b &&& c) := by
  have e1 : ((256 * q + b) &&& (256 * p + c)) % 2 ^ 8 = b &&& c := by
    rw [Nat.and_mod_two_pow]
    rw [show (256 * q + b) % 2 ^ 8 = b by omega, show (256 * p + c) % 2 ^ 8 = c by omega]
  have e2 : ((256 * q + b) &&& (256 * p + c)) / 2 ^ 8 = q &&& p := by
    rw [Nat.and_div_two_pow]
    rw [show (256 * q + b) / 2 ^ 8 = q by omega, show (256 * p + c) / 2 ^ 8 = p by omega]
  have := Nat.div_add_mod ((256 * q + b) &&& (256 * p + c)) (2 ^ 8)
  rw [e1, e2] at this
  omega

def ofB : List Nat → Nat
  | [] => 0
  | b :: l => 256 * ofB l + b
def rep (c : Nat) : Nat → Nat
  | 0 => 0
  | k + 1 => 256 * rep c k + c

def g1 (b : Nat) : Nat := (b / 2 &&& 85) + (b &&& 85)
def g2 (b : Nat) : Nat := (b / 4 &&& 51) + (b &&& 51)
def g3 (b : Nat) : Nat := (b / 16 + b) &&& 15
theorem d1 : ∀ t : Fin 2, ∀ b : Fin 256, (128 * t.val + b.val / 2) &&& 85 = (b.val / 2 &&& 85) := by decide +kernel
theorem d2 : ∀ t : Fin 4, ∀ b : Fin 256, (64 * t.val + b.val / 4) &&& 51 = (b.val / 4 &&& 51) := by decide +kernel
theorem d3 : ∀ t : Fin 5, ∀ b : Fin 256, (16 * t.val + b.val / 16 + b.val) &&& 15 = g3 b.val := by decide +kernel
theorem d4 : ∀ b : Fin 256, g1 b.val < 256 ∧ g2 (g1 b.val) < 256 ∧ g2 (g1 b.val) % 16 ≤ 4 ∧ g2 (g1 b.val) / 16 ≤ 4 ∧ g3 (g2 (g1 b.val)) ≤ 8 := by decide +kernel

theorem a1 : ∀ bs : List Nat, (∀ b ∈ bs, b < 256) → (ofB bs / 2 &&& rep 85 bs.length) + (ofB bs &&& rep 85 bs.length) = ofB (bs.map g1)
  | [], _ => by simp [ofB, rep]
  | b :: l, h => by
    have hb : b < 256 := h b (by simp)
    have ih := a1 l (fun c hc => h c (by simp [hc]))
    simp only [ofB, rep, List.length_cons, List.map_cons]
    have e : (256 * ofB l + b) / 2 = 256 * (ofB l / 2) + (128 * (ofB l % 2) + b / 2) := by omega
    rw [e, and_split _ _ _ _ (by omega) (by decide), and_split _ _ _ _ hb (by decide), d1 ⟨ofB l % 2, by omega⟩ ⟨b, hb⟩, ← ih]
    simp only [g1]; omega
theorem a2 : ∀ bs : List Nat, (∀ b ∈ bs, b < 256) → (ofB bs / 4 &&& rep 51 bs.length) + (ofB bs &&& rep 51 bs.length) = ofB (bs.map g2)
  | [], _ => by simp [ofB, rep]
  | b :: l, h => by
    have hb : b < 256 := h b (by simp)
    have ih := a2 l (fun c hc => h c (by simp [hc]))
    simp only [ofB, rep, List.length_cons, List.map_cons]
    have e : (256 * ofB l + b) / 4 = 256 * (ofB l / 4) + (64 * (ofB l % 4) + b / 4) := by omega
    rw [e, and_split _ _ _ _ (by omega) (by decide), and_split _ _ _ _ hb (by decide), d2 ⟨ofB l % 4, by omega⟩ ⟨b, hb⟩, ← ih]
    simp only [g2]; omega
theorem head_mod : ∀ bs : List Nat, (∀ b ∈ bs, b < 256 ∧ b % 16 ≤ 4 ∧ b / 16 ≤ 4) → ofB bs % 16 ≤ 4
  | [], _ => by simp [ofB]
  | b :: l, h => by have := h b (by simp); simp only [ofB]; omega
theorem a3 : ∀ bs : List Nat, (∀ b ∈ bs, b < 256 ∧ b % 16 ≤ 4 ∧ b / 16 ≤ 4) → (ofB bs / 16 + ofB bs) &&& rep 15 bs.length = ofB (bs.map g3)
  | [], _ => by simp [ofB, rep]
  | b :: l, h => by
    have hb := h b (by simp)
    have hl : ∀ c ∈ l, c < 256 ∧ c % 16 ≤ 4 ∧ c / 16 ≤ 4 := fun c hc => h c (by simp [hc])
    have ih := a3 l hl
    have hm := head_mod l hl
    simp only [ofB, rep, List.length_cons, List.map_cons]
    have e : (256 * ofB l + b) / 16 + (256 * ofB l + b) = 256 * (ofB l / 16 + ofB l) + (16 * (ofB l % 16) + b / 16 + b) := by omega
    rw [e, and_split _ _ _ _ (by omega) (by decide), d3 ⟨ofB l % 16, by omega⟩ ⟨b, hb.1⟩, ih]

def gB (b : Nat) : Nat := g3 (g2 (g1 b))
theorem gB_zero : ∀ b : Fin 256, gB b.val = 0 → b.val = 0 := by decide +kernel
theorem gB_one : ∀ b : Fin 256, gB b.val = 1 → ∃ j : Fin 8, b.val = 2 ^ j.val := by decide +kernel
theorem gB_pow : ∀ j : Fin 8, gB (2 ^ j.val) = 1 := by decide +kernel
def sumB : List Nat → Nat
  | [] => 0
  | b :: l => gB b + sumB l
theorem sum_zero : ∀ bs : List Nat, (∀ b ∈ bs, b < 256) → (sumB bs = 0 ↔ ofB bs = 0)
  | [], _ => by simp [sumB, ofB]
  | b :: l, h => by
    have hb := h b (by simp)
    have ih := sum_zero l (fun c hc => h c (by simp [hc]))
    simp only [sumB, ofB]
    constructor
    · intro e
      have := gB_zero ⟨b, hb⟩ (by simp only; omega)
      simp only at this
      have := ih.1 (by omega)
      omega
    · intro e
      obtain rfl : b = 0 := by omega
      have := ih.2 (by omega)
      have h0 : gB 0 = 0 := by decide
      omega
theorem sum_one : ∀ bs : List Nat, (∀ b ∈ bs, b < 256) → (sumB bs = 1 ↔ ∃ k, ofB bs = 2 ^ k)
  | [], _ => by
    simp only [sumB, ofB]
    constructor
    · intro e; omega
    · rintro ⟨k, hk⟩; have := Nat.two_pow_pos k; omega
  | b :: l, h => by
    have hb := h b (by simp)
    have hl : ∀ c ∈ l, c < 256 := fun c hc => h c (by simp [hc])
    have ih := sum_one l hl
    have iz := sum_zero l hl
    simp only [sumB, ofB]
    constructor
    · intro e
      rcases Nat.lt_or_ge (gB b) 1 with h0 | h0
      · have := gB_zero ⟨b, hb⟩ (by simp only; omega)
        simp only at this
        obtain ⟨k, hk⟩ := ih.1 (by omega)
        exact ⟨k + 8, by rw [hk, this, Nat.pow_add]; omega⟩
      · obtain ⟨j, hj⟩ := gB_one ⟨b, hb⟩ (by simp only; omega)
        simp only at hj
        have := iz.1 (by omega)
        exact ⟨j.val, by rw [this, hj]; omega⟩
    · rintro ⟨k, hk⟩
      rcases Nat.lt_or_ge k 8 with h8 | h8
      · have : 2 ^ k < 256 := by rw [show (256 : Nat) = 2 ^ 8 from rfl]; exact Nat.pow_lt_pow_right (by decide) h8
        have h1 : ofB l = 0 := by omega
        have h2 : b = 2 ^ k := by omega
        have := gB_pow ⟨k, h8⟩
        simp only at this
        rw [h2, this, iz.2 h1]
      · obtain ⟨m, rfl⟩ : ∃ m, k = m + 8 := ⟨k - 8, by omega⟩
        rw [Nat.pow_add] at hk
        have h2 : b = 0 := by omega
        have h3 : ofB l = 2 ^ m := by omega
        have h0 : gB 0 = 0 := by decide
        rw [h2, h0, ih.2 ⟨m, h3⟩]

def bytesB (x : Nat) : List Nat := [x % 256, x / 256 % 256, x / 65536 % 256, x / 16777216 % 256, x / 4294967296 % 256, x / 1099511627776 % 256, x / 281474976710656 % 256, x / 72057594037927936 % 256]
theorem of_bytes (x : Nat) (hx : x < 18446744073709551616) : ofB (bytesB x) = x := by
  simp only [bytesB, ofB]; omega
theorem bytes_lt (x : Nat) : ∀ b ∈ bytesB x, b < 256 := by
  intro b hb
  simp only [bytesB, List.mem_cons, List.not_mem_nil, or_false] at hb
  rcases hb with h | h | h | h | h | h | h | h <;> omega

def s1 (x : Nat) : Nat := (x / 2 &&& 6148914691236517205) + (x &&& 6148914691236517205)
def s2 (x : Nat) : Nat := (x / 4 &&& 3689348814741910323) + (x &&& 3689348814741910323)
def s3 (x : Nat) : Nat := (x / 16 + x) &&& 1085102592571150095
def s4 (x : Nat) : Nat := x + x / 256
def s5 (x : Nat) : Nat := x + x / 65536
def s6 (x : Nat) : Nat := x + x / 4294967296
theorem r1 : rep 85 8 = 6148914691236517205 := by decide
theorem r2 : rep 51 8 = 3689348814741910323 := by decide
theorem r3 : rep 15 8 = 1085102592571150095 := by decide
theorem s3_of (x : Nat) (hx : x < 18446744073709551616) : s3 (s2 (s1 x)) = ofB ((bytesB x).map gB) ∧ s1 x < 18446744073709551616 ∧ s2 (s1 x) < 4919131752989213765 := by
  have e1 : s1 x = ofB ((bytesB x).map g1) := by
    have := a1 (bytesB x) (bytes_lt x)
    rw [of_bytes x hx, show (bytesB x).length = 8 from rfl, r1] at this
    exact this
  have h1 : ∀ b ∈ (bytesB x).map g1, b < 256 := by
    intro b hb
    obtain ⟨c, hc, rfl⟩ := List.mem_map.1 hb
    exact (d4 ⟨c, bytes_lt x c hc⟩).1
  have e2 : s2 (s1 x) = ofB (((bytesB x).map g1).map g2) := by
    have := a2 _ h1
    rw [← e1, show ((bytesB x).map g1).length = 8 from rfl, r2] at this
    exact this
  have h2 : ∀ b ∈ ((bytesB x).map g1).map g2, b < 256 ∧ b % 16 ≤ 4 ∧ b / 16 ≤ 4 := by
    intro b hb
    obtain ⟨c, hc, rfl⟩ := List.mem_map.1 hb
    obtain ⟨d, hd, rfl⟩ := List.mem_map.1 hc
    have := d4 ⟨d, bytes_lt x d hd⟩
    exact ⟨this.2.1, this.2.2.1, this.2.2.2.1⟩
  refine ⟨?_, ?_, ?_⟩
  · have := a3 _ h2
    rw [← e2, show (((bytesB x).map g1).map g2).length = 8 from rfl, r3] at this
    rw [List.map_map, List.map_map] at this
    exact this
  · rw [e1]
    have := h1
    simp only [bytesB, List.map_cons, List.map_nil, List.mem_cons, List.not_mem_nil, or_false, forall_eq_or_imp, forall_eq] at this
    simp only [bytesB, List.map_cons, List.map_nil, ofB]
    omega
  · rw [e2]
    have := h2
    simp only [bytesB, List.map_cons, List.map_nil, List.mem_cons, List.not_mem_nil, or_false, forall_eq_or_imp, forall_eq] at this
    simp only [bytesB, List.map_cons, List.map_nil, ofB]
    omega
theorem fin_sum (c0 c1 c2 c3 c4 c5 c6 c7 : Nat) (h0 : c0 ≤ 8) (h1 : c1 ≤ 8) (h2 : c2 ≤ 8) (h3 : c3 ≤ 8) (h4 : c4 ≤ 8) (h5 : c5 ≤ 8) (h6 : c6 ≤ 8) (h7 : c7 ≤ 8) :
    s6 (s5 (s4 (ofB [c0, c1, c2, c3, c4, c5, c6, c7]))) % 128 = c0 + (c1 + (c2 + (c3 + (c4 + (c5 + (c6 + c7)))))) ∧ s6 (s5 (s4 (ofB [c0, c1, c2, c3, c4, c5, c6, c7]))) < 4611686018427387904 := by
  have e4 : s4 (ofB [c0, c1, c2, c3, c4, c5, c6, c7]) = ofB [c0 + c1, c1 + c2, c2 + c3, c3 + c4, c4 + c5, c5 + c6, c6 + c7, c7] := by simp only [ofB, s4]; omega
  have e5 : s5 (ofB [c0 + c1, c1 + c2, c2 + c3, c3 + c4, c4 + c5, c5 + c6, c6 + c7, c7]) = ofB [c0 + c1 + (c2 + c3), c1 + c2 + (c3 + c4), c2 + c3 + (c4 + c5), c3 + c4 + (c5 + c6), c4 + c5 + (c6 + c7), c5 + c6 + c7, c6 + c7, c7] := by simp only [ofB, s5]; omega
  rw [e4, e5]
  generalize hd0 : c0 + c1 + (c2 + c3) = d0
  generalize hd1 : c1 + c2 + (c3 + c4) = d1
  generalize hd2 : c2 + c3 + (c4 + c5) = d2
  generalize hd3 : c3 + c4 + (c5 + c6) = d3
  generalize hd4 : c4 + c5 + (c6 + c7) = d4
  generalize hd5 : c5 + c6 + c7 = d5
  generalize hd6 : c6 + c7 = d6
  have b0 : d0 ≤ 32 := by omega
  have b1 : d1 ≤ 32 := by omega
  have b2 : d2 ≤ 32 := by omega
  have b3 : d3 ≤ 32 := by omega
  have b4 : d4 ≤ 32 := by omega
  have b5 : d5 ≤ 32 := by omega
  have b6 : d6 ≤ 32 := by omega
  have hs : c0 + (c1 + (c2 + (c3 + (c4 + (c5 + d6))))) = d0 + d4 := by omega
  rw [hs]
  clear hd0 hd1 hd2 hd3 hd4 hd5 hd6 hs e4 e5 h0 h1 h2 h3 h4 h5 h6 
  have e6 : s6 (ofB [d0, d1, d2, d3, d4, d5, d6, c7]) = ofB [d0 + d4, d1 + d5, d2 + d6, d3 + c7, d4, d5, d6, c7] := by simp only [ofB, s6]; omega
  rw [e6]
  simp only [ofB]
  omega
/-- how many bits are 1. -/
def pop (x : Nat) : Nat := sumB (bytesB x)
theorem pop_of (x : Nat) (hx : x < 18446744073709551616) : s6 (s5 (s4 (s3 (s2 (s1 x))))) % 128 = pop x ∧ s6 (s5 (s4 (s3 (s2 (s1 x))))) < 4611686018427387904 := by
  have hl := bytes_lt x
  have h8 : ∀ b ∈ bytesB x, gB b ≤ 8 := fun b hb => (d4 ⟨b, hl b hb⟩).2.2.2.2
  rw [(s3_of x hx).1]
  simp only [bytesB, List.mem_cons, List.not_mem_nil, or_false, forall_eq_or_imp, forall_eq] at h8
  obtain ⟨a0, a1, a2, a3, a4, a5, a6, a7⟩ := h8
  have := fin_sum _ _ _ _ _ _ _ _ a0 a1 a2 a3 a4 a5 a6 a7
  simp only [bytesB, List.map_cons, List.map_nil, pop, sumB]
  exact this
theorem pop_one (x : Nat) (hx : x < 18446744073709551616) : pop x = 1 ↔ ∃ k, x = 2 ^ k := by
  have := sum_one (bytesB x) (bytes_lt x)
  rwa [of_bytes x hx] at this

theorem bl_spec : ∀ (f n : Nat), n < 2 ^ f → f ≤ 64 → 0 < n → ∃ k, Lib.bitLen n = k + 1 ∧ 2 ^ k ≤ n ∧ n < 2 ^ (k + 1)
  | 0, n, h, _, h0 => by simp at h; omega
  | f + 1, n, h, hf, h0 => by
    have hn : n < 2 ^ 64 := Nat.lt_of_lt_of_le h (Nat.pow_le_pow_right (by decide) hf)
    rw [Lib.bitLen_half n (by omega) hn]
    rcases Nat.lt_or_ge n 2 with h2 | h2
    · obtain rfl : n = 1 := by omega
      exact ⟨0, by decide, by decide, by decide⟩
    · obtain ⟨k, hk, h3, h4⟩ := bl_spec f (n / 2) (by rw [Nat.pow_succ] at h; omega) (by omega) (by omega)
      exact ⟨k + 1, by omega, by rw [Nat.pow_succ]; omega, by rw [Nat.pow_succ]; omega⟩
theorem bl_of (n : Nat) (h : n < 18446744073709551616) (h0 : 0 < n) : ∃ k, Lib.bitLen n = k + 1 ∧ 2 ^ k ≤ n ∧ n < 2 ^ (k + 1) ∧ k < 64 := by
  obtain ⟨k, h1, h2, h3⟩ := bl_spec 64 n h (by decide) h0
  refine ⟨k, h1, h2, h3, ?_⟩
  rcases Nat.lt_or_ge k 64 with h4 | h4
  · exact h4
  · have : 2 ^ 64 ≤ 2 ^ k := Nat.pow_le_pow_right (by decide) h4
    omega
theorem bl_zero : Lib.bitLen 0 = 0 := by decide
theorem bl_le (n : Nat) (h : n < 18446744073709551616) : Lib.bitLen n ≤ 64 := by
  rcases Nat.eq_zero_or_pos n with rfl | h0
  · rw [bl_zero]; omega
  · obtain ⟨k, h1, _, _, h4⟩ := bl_of n h h0; omega
/-- the least power of two that is not below (0: none that fits). -/
def upN (n : Nat) : Nat := if n ≤ 1 then 1 else if n ≤ 9223372036854775808 then 2 ^ Lib.bitLen (n - 1) else 0
theorem upN_lt (n : Nat) : upN n < 18446744073709551616 := by
  unfold upN
  split
  · decide
  · split
    · obtain ⟨k, h1, h2, h3, h4⟩ := bl_of (n - 1) (by omega) (by omega)
      have : k < 63 := by
        rcases Nat.lt_or_ge k 63 with h5 | h5
        · exact h5
        · have : 2 ^ 63 ≤ 2 ^ k := Nat.pow_le_pow_right (by decide) h5
          omega
      rw [h1, show (18446744073709551616 : Nat) = 2 ^ 64 from rfl]
      exact Nat.pow_lt_pow_right (by decide) (by omega)
    · decide
/-- 2^i is not below n just where i is at least the length of n - 1. -/
theorem up_test (n i : Nat) (hn : n < 18446744073709551616) (h1 : 1 < n) : n ≤ 2 ^ i ↔ Lib.bitLen (n - 1) ≤ i := by
  obtain ⟨k, e, h2, h3, h4⟩ := bl_of (n - 1) (by omega) (by omega)
  rw [e]
  constructor
  · intro h
    rcases Nat.lt_or_ge k i with h5 | h5
    · exact h5
    · have : 2 ^ i ≤ 2 ^ k := Nat.pow_le_pow_right (by decide) h5
      omega
  · intro h
    have : 2 ^ (k + 1) ≤ 2 ^ i := Nat.pow_le_pow_right (by decide) h
    omega
theorem up_big (n : Nat) (hn : n < 18446744073709551616) (h : 9223372036854775808 < n) : Lib.bitLen (n - 1) = 64 := by
  have h1 := (up_test n 63 hn (by omega))
  have h2 := bl_le (n - 1) (by omega)
  have : ¬ Lib.bitLen (n - 1) ≤ 63 := fun c => by have := h1.2 c; omega
  omega
theorem up_small (n : Nat) (h1 : 1 < n) (h : n ≤ 9223372036854775808) : Lib.bitLen (n - 1) ≤ 63 := (up_test n 63 (by omega) h1).1 h
theorem up_first (n i : Nat) (hn : n < 18446744073709551616) (hi : i < 64) (h : n ≤ 2 ^ i) (hf : ∀ k, k < i → ¬ n ≤ 2 ^ k) : upN n = 2 ^ i := by
  unfold upN
  split
  · rename_i h1
    rcases Nat.eq_zero_or_pos i with rfl | h0
    · rfl
    · exact absurd h1 (by have := hf 0 h0; simpa using this)
  · rename_i h1
    have a := (up_test n i hn (by omega)).1 h
    have hle : n ≤ 9223372036854775808 := by
      have : 2 ^ i ≤ 2 ^ 63 := Nat.pow_le_pow_right (by decide) (by omega)
      omega
    rw [if_pos hle]
    rcases Nat.lt_or_ge (Lib.bitLen (n - 1)) i with h2 | h2
    · exact absurd ((up_test n _ hn (by omega)).2 (Nat.le_refl _)) (hf _ h2)
    · rw [show Lib.bitLen (n - 1) = i by omega]
theorem up_none (n : Nat) (hf : ∀ k, k < 64 → ¬ n ≤ 2 ^ k) : upN n = 0 := by
  unfold upN
  have h0 := hf 0 (by omega)
  have h63 := hf 63 (by omega)
  rw [if_neg (by simpa using h0), if_neg (by simpa using h63)]
theorem up_self (n : Nat) (hn : n < 18446744073709551616) (h0 : 0 < n) : upN n = n ↔ ∃ k, n = 2 ^ k := by
  unfold upN
  split
  · obtain rfl : n = 1 := by omega
    exact ⟨fun _ => ⟨0, rfl⟩, fun _ => rfl⟩
  · rename_i h1
    split
    · rename_i h2
      constructor
      · intro h; exact ⟨_, h.symm⟩
      · rintro ⟨k, hk⟩
        obtain ⟨j, e, a, b, c⟩ := bl_of (n - 1) (by omega) (by omega)
        rw [e]
        have ha : 2 ^ j < 2 ^ k := by omega
        have hb : 2 ^ k ≤ 2 ^ (j + 1) := by omega
        have h3 := (Nat.pow_lt_pow_iff_right (show 1 < 2 by decide)).1 ha
        have h4 := (Nat.pow_le_pow_iff_right (show 1 < 2 by decide)).1 hb
        rw [hk, show k = j + 1 by omega]
    · rename_i h2
      constructor
      · intro h; omega
      · rintro ⟨k, hk⟩
        have h3 : k < 64 := by
          rcases Nat.lt_or_ge k 64 with h5 | h5
          · exact h5
          · have : 2 ^ 64 ≤ 2 ^ k := Nat.pow_le_pow_right (by decide) h5
            omega
        have : 2 ^ k ≤ 2 ^ 63 := Nat.pow_le_pow_right (by decide) (by omega)
        omega
theorem power_eq (n : Nat) (hn : n < 18446744073709551616) : decide (pop n = 1) = (decide (0 < n) && decide (upN n = n)) := by
  rcases Nat.eq_zero_or_pos n with rfl | h0
  · have : pop 0 = 0 := by decide
    rw [this]; rfl
  · rw [decide_eq_true h0, Bool.true_and]
    exact decide_eq_decide.2 ((pop_one n hn).trans (up_self n hn h0).symm)
end Go.Proofs.Ytjmooohhndjmiaa
