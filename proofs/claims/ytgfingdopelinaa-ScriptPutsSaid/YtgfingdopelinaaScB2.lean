/- contract of the reference's Number. (Printed by genrefn.py.) -/
import Derived.Test.YtgfingdopelinaaScB
namespace Go.Proofs.Ytgfingdopelinaa
set_option linter.unusedSimpArgs false
set_option linter.unusedVariables false
open Go.RowKit Go.Deep

theorem bytes_at (s : ByteArray) (k : Nat) (hk : k < s.size) : (bytesOf s).getD k 0 = s[k].toNat := by
  unfold bytesOf
  have h : k < s.data.toList.length := by rw [Array.length_toList]; exact hk
  rw [List.getD, List.getElem?_map, List.getElem?_eq_getElem h]
  rfl
theorem orw2 {p q z x k a : Nat} (h : 2 ^ (7 * k) = p ∧ p ≤ 9223372036854775808 ∧ z * p = q ∧ x % 128 = z) (ha : a < p) (hz : k = 9 ∧ z ≤ 1 ∨ k < 9 ∧ z < 128) :
    q ≤ 9223372036854775808 ∧ a + q < 18446744073709551616 := by
  obtain ⟨rfl, hp, rfl, _⟩ := h
  have hq : z * 2 ^ (7 * k) ≤ 9223372036854775808 := by
    rcases hz with ⟨rfl, hz⟩ | ⟨hk, hz⟩
    · have e : (2 : Nat) ^ (7 * 9) = 9223372036854775808 := by decide
      rw [e]; omega
    · have h1 : (2 : Nat) ^ (7 * k) ≤ 2 ^ (7 * 8) := Nat.pow_le_pow_right (by decide) (by omega)
      have e : (2 : Nat) ^ (7 * 8) = 72057594037927936 := by decide
      rw [e] at h1
      have := Nat.mul_le_mul (show z ≤ 128 by omega) h1
      omega
  omega
set_option maxRecDepth 100000 in
set_option maxHeartbeats 4000000 in
theorem refNumber_calls (s : ByteArray) (w : World) (hs : s.size ≤ 1099511627776) :
    Calls Try.prog 20 #[.string s] w fun e w' => e = .returned (.tuple #[.int .u64 ((rdN 0 0 (bytesOf s)).1 : Nat), .int .i64 ((rdN 0 0 (bytesOf s)).2.1 : Nat), .int .i64 ((rdN 0 0 (bytesOf s)).2.2 : Nat)]) ∧ w = w' := by
  have HN := Lib.hid (bytesOf_len s)
  go_enter Try.func20, Try.ntmps20
  go_wp2_with fail
  go_loopg [5, 6] 10 (fun g acc i wr => ∃ (k a : Nat), k ≤ s.size ∧ g = 10 - k ∧ i = .int .i64 k ∧ acc = .int .u64 a ∧ Hid (rdN 0 0 (bytesOf s) = rdN k a ((bytesOf s).drop k) ∧ a < 2 ^ (7 * k) ∧ k ≤ 9) ∧ wr = w)
  case atStart => exact ⟨0, 0, by omega, rfl, rfl, rfl, Lib.hid ⟨rfl, by decide, by decide⟩, rfl⟩
  case round =>
    obtain ⟨k, a, hk, rfl, rfl, rfl, HI, rfl⟩ := hrel
    have hk9 : k ≤ 9 := HI.out.2.2
    have t0 : decide ((k : Int) < 10) = true := by simp; omega
    by_cases hlt : k < s.size
    · have tl : decide (s.size ≤ k) = false := by simp; omega
      have hx0 := bytes_at s k hlt
      obtain ⟨x, hx⟩ : ∃ x, s[k].toNat = x := ⟨_, rfl⟩
      rw [hx] at hx0
      have HX := Lib.hid hx0
      have hx8 : x < 256 := by rw [← hx]; exact s[k].toNat_lt
      obtain ⟨z, hz⟩ : ∃ z, x % 128 = z := ⟨_, rfl⟩
      have hmod : (x : Int) % 128 = (z : Int) := by omega
      have hz128 : z < 128 := by omega
      obtain ⟨p, hp⟩ : ∃ p, 2 ^ (7 * k) = p := ⟨_, rfl⟩
      have hpl : p ≤ 9223372036854775808 := by
        have h1 : (2 : Nat) ^ (7 * k) ≤ 2 ^ (7 * 9) := Nat.pow_le_pow_right (by decide) (by omega)
        have e : (2 : Nat) ^ (7 * 9) = 9223372036854775808 := by decide
        omega
      obtain ⟨q, hq⟩ : ∃ q, z * p = q := ⟨_, rfl⟩
      have HP := Lib.hid (And.intro hp (And.intro hpl (And.intro hq hz)))
      have hw : (z : Int) * 2 ^ (7 * (k : Int)).toNat = (q : Int) := by
        rw [show (7 * (k : Int)).toNat = 7 * k by omega, ← hq, ← hp]
        simp
      have ha := HI.out.2.1
      rw [hp] at ha
      have HA := Lib.hid ha
      have HX8 := Lib.hid hx8
      clear hz hp hpl hq ha hx0
      by_cases c1 : k = 9
      · by_cases c2 : 1 < x
        · have t1 : ((k : Int) == 9) = true := by rw [beq_iff_eq]; omega
          have t3 : decide ((1 : Int) < (x : Int)) = true := by simp; omega
          have HC := Lib.hid (And.intro c1 c2)
          clear c1 c2
          go_wp2
          go_ret3
          exact ⟨by rw [HI.out.1, rd_err HN.out hlt HX.out (by have := HC.out; omega)]; rfl, rfl⟩
        · by_cases c3 : x = 0
          · have t1 : ((k : Int) == 9) = true := by rw [beq_iff_eq]; omega
            have t3 : decide ((1 : Int) < (x : Int)) = false := by simp; omega
            have t2 : decide ((x : Int) < 128) = true := by simp; omega
            have t4 : ((x : Int) == 0) = true := by rw [beq_iff_eq]; omega
            have t5 : decide (0 < k) = true := by simp; omega
            have HC := Lib.hid (And.intro c1 (And.intro c2 c3))
            have hqb := orw2 HP.out HA.out (by have := HC.out; have := HP.out.2.2.2; have := HI.out.2.2; omega)
            clear c1 c2 c3
            go_wp2
            go_ret3
            exact ⟨by rw [HI.out.1, rd_err HN.out hlt HX.out (by have := HC.out; omega)]; rfl, rfl⟩
          · have t1 : ((k : Int) == 9) = true := by rw [beq_iff_eq]; omega
            have t3 : decide ((1 : Int) < (x : Int)) = false := by simp; omega
            have t2 : decide ((x : Int) < 128) = true := by simp; omega
            have t4 : ((x : Int) == 0) = false := by rw [beq_eq_false_iff_ne]; omega
            have HC := Lib.hid (And.intro c1 (And.intro c2 c3))
            have hqb := orw2 HP.out HA.out (by have := HC.out; have := HP.out.2.2.2; have := HI.out.2.2; omega)
            clear c1 c2 c3
            go_wp2
            go_ret3
            exact ⟨by rw [HI.out.1, rd_ret HN.out hlt HX.out (by have := HC.out; omega) (by have := HC.out; omega), HP.out.1, ← HP.out.2.2.1, ← HP.out.2.2.2, Nat.mod_eq_of_lt (by have := HC.out; omega : x < 128)]; simp, rfl⟩
      · by_cases c2 : x < 128
        · by_cases c3 : x = 0
          · by_cases c4 : 0 < k
            · have t1 : ((k : Int) == 9) = false := by rw [beq_eq_false_iff_ne]; omega
              have t2 : decide ((x : Int) < 128) = true := by simp; omega
              have t4 : ((x : Int) == 0) = true := by rw [beq_iff_eq]; omega
              have t5 : decide (0 < k) = true := by simp; omega
              have HC := Lib.hid (And.intro c1 (And.intro c2 (And.intro c3 c4)))
              have hqb := orw2 HP.out HA.out (by have := HC.out; have := HP.out.2.2.2; have := HI.out.2.2; omega)
              clear c1 c2 c3 c4
              go_wp2
              go_ret3
              exact ⟨by rw [HI.out.1, rd_err HN.out hlt HX.out (by have := HC.out; omega)]; rfl, rfl⟩
            · have t1 : ((k : Int) == 9) = false := by rw [beq_eq_false_iff_ne]; omega
              have t2 : decide ((x : Int) < 128) = true := by simp; omega
              have t4 : ((x : Int) == 0) = true := by rw [beq_iff_eq]; omega
              have t5 : decide (0 < k) = false := by simp; omega
              have HC := Lib.hid (And.intro c1 (And.intro c2 (And.intro c3 c4)))
              have hqb := orw2 HP.out HA.out (by have := HC.out; have := HP.out.2.2.2; have := HI.out.2.2; omega)
              clear c1 c2 c3 c4
              go_wp2
              go_ret3
              exact ⟨by rw [HI.out.1, rd_ret HN.out hlt HX.out (by have := HC.out; omega) (by have := HC.out; omega), HP.out.1, ← HP.out.2.2.1, ← HP.out.2.2.2, Nat.mod_eq_of_lt (by have := HC.out; omega : x < 128)]; simp, rfl⟩
          · have t1 : ((k : Int) == 9) = false := by rw [beq_eq_false_iff_ne]; omega
            have t2 : decide ((x : Int) < 128) = true := by simp; omega
            have t4 : ((x : Int) == 0) = false := by rw [beq_eq_false_iff_ne]; omega
            have HC := Lib.hid (And.intro c1 (And.intro c2 c3))
            have hqb := orw2 HP.out HA.out (by have := HC.out; have := HP.out.2.2.2; have := HI.out.2.2; omega)
            clear c1 c2 c3
            go_wp2
            go_ret3
            exact ⟨by rw [HI.out.1, rd_ret HN.out hlt HX.out (by have := HC.out; omega) (by have := HC.out; omega), HP.out.1, ← HP.out.2.2.1, ← HP.out.2.2.2, Nat.mod_eq_of_lt (by have := HC.out; omega : x < 128)]; simp, rfl⟩
        · have t1 : ((k : Int) == 9) = false := by rw [beq_eq_false_iff_ne]; omega
          have t2 : decide ((x : Int) < 128) = false := by simp; omega
          have HC := Lib.hid (And.intro c1 c2)
          have hqb := orw2 HP.out HA.out (by have := HC.out; have := HP.out.2.2.2; have := HI.out.2.2; omega)
          clear c1 c2
          go_wp2
          go_roundg (10 - (k + 1))
          case measure => have := HI.out.2.2; omega
          case rel => exact ⟨k + 1, a + q, by omega, rfl, by go_num, by go_num, Lib.hid (rd_go HN.out hlt HX.out HI.out.1 (by have := HC.out; have := HI.out.2.2; omega) HP.out HA.out hz128), rfl⟩
    · have tl : decide (s.size ≤ k) = true := by simp; omega
      obtain rfl : s.size = k := by omega
      clear hlt
      go_wp2
      go_ret3
      exact ⟨by rw [HI.out.1, List.drop_of_length_le (by rw [HN.out]; exact Nat.le_refl _)]; rfl, rfl⟩
end Go.Proofs.Ytgfingdopelinaa
