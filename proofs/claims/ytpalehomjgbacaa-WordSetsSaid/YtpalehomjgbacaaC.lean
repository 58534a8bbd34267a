/- contracts: lengths and powers. -/
import Derived.Test.YtpalehomjgbacaaB
import Derived.Test.YtpalehomjgbacaaP
import Derived.Shelf.Strconv.Itoa0
namespace Go.Proofs.Ytpalehomjgbacaa
open Go.RowKit

theorem and_c (x c : Nat) (hx : x < 18446744073709551616) (hc : c < 18446744073709551616) : bits BinOp.and IntKind.u64 (x : Int) ((c : Nat) : Int) = ((x &&& c : Nat) : Int) := u64_and_nat x c hx hc
theorem wrap_small (k : Nat) (h : k < 18446744073709551616) : IntKind.u64.wrap (k : Int) = (k : Int) := by rw [wrap_nat, Nat.mod_eq_of_lt h]
theorem s1_int (x : Nat) (hx : x < 18446744073709551616) : IntKind.u64.wrap (bits BinOp.and IntKind.u64 ((x : Int) / 2) 6148914691236517205 + bits BinOp.and IntKind.u64 (x : Int) 6148914691236517205) = ((s1 x : Nat) : Int) := by
  have h := (s3_of x hx).2.1
  have e : (x : Int) / 2 = ((x / 2 : Nat) : Int) := by omega
  have e1 := and_c (x / 2) 6148914691236517205 (by omega) (by decide)
  have e2 := and_c x 6148914691236517205 (by omega) (by decide)
  rw [e]
  rw [show ((6148914691236517205 : Nat) : Int) = (6148914691236517205 : Int) from rfl] at e1 e2
  rw [e1, e2, ← Int.natCast_add]
  exact wrap_small _ h
theorem s2_int (x : Nat) (hx : x < 18446744073709551616) : IntKind.u64.wrap (bits BinOp.and IntKind.u64 ((s1 x : Int) / 4) 3689348814741910323 + bits BinOp.and IntKind.u64 (s1 x : Int) 3689348814741910323) = ((s2 (s1 x) : Nat) : Int) := by
  have h0 := (s3_of x hx).2.1
  have h := (s3_of x hx).2.2
  generalize s1 x = y at *
  have e : (y : Int) / 4 = ((y / 4 : Nat) : Int) := by omega
  have e1 := and_c (y / 4) 3689348814741910323 (by omega) (by decide)
  have e2 := and_c y 3689348814741910323 (by omega) (by decide)
  rw [e]
  rw [show ((3689348814741910323 : Nat) : Int) = (3689348814741910323 : Int) from rfl] at e1 e2
  rw [e1, e2, ← Int.natCast_add]
  exact wrap_small _ (by unfold s2 at h; omega)
theorem s3_int (y : Nat) (hy : y < 4919131752989213765) : bits BinOp.and IntKind.u64 (IntKind.u64.wrap ((y : Int) / 16 + (y : Int))) 1085102592571150095 = ((s3 y : Nat) : Int) := by
  have e : (y : Int) / 16 + (y : Int) = ((y / 16 + y : Nat) : Int) := by omega
  have e1 := and_c (y / 16 + y) 1085102592571150095 (by omega) (by decide)
  rw [e, wrap_small _ (by omega)]
  exact e1
theorem s4_int (y d : Nat) (hy : y + y / d < 18446744073709551616) : IntKind.u64.wrap ((y : Int) + (y : Int) / (d : Int)) = ((y + y / d : Nat) : Int) := by
  have e : (y : Int) + (y : Int) / (d : Int) = ((y + y / d : Nat) : Int) := by simp
  rw [e, wrap_small _ (by omega)]
theorem fin_int (y : Nat) (_hy : y < 4611686018427387904) : bits BinOp.and IntKind.i64 (wrap64 (y : Int)) 127 = ((y % 128 : Nat) : Int) := by
  rw [i64_and127]
  unfold wrap64
  omega

theorem ones64_calls (x : Nat) (w : World) (hx : x < 18446744073709551616) :
    Calls Try.prog 31 #[.int .u64 x] w fun e w' => e = .returned (.int .i64 (pop x : Nat)) ∧ w = w' := by
  have H := Lib.hid (show s6 (s5 (s4 (s3 (s2 (s1 x))))) % 128 = pop x ∧ s6 (s5 (s4 (s3 (s2 (s1 x))))) < 4611686018427387904 from pop_of x hx)
  have hf := pop_of x hx
  have E1 := Lib.hid (s1_int x hx)
  have E2 := Lib.hid (s2_int x hx)
  have E3 := Lib.hid (s3_int _ (s3_of x hx).2.2)
  have b5 : s5 (s4 (s3 (s2 (s1 x)))) < 4611686018427387904 := by have := hf.2; unfold s6 at this; omega
  have b4 : s4 (s3 (s2 (s1 x))) < 4611686018427387904 := by unfold s5 at b5; omega
  have E4 := Lib.hid (s4_int (s3 (s2 (s1 x))) 256 (by unfold s4 at b4; omega))
  have E5 := Lib.hid (s4_int (s4 (s3 (s2 (s1 x)))) 65536 (by unfold s5 at b5; omega))
  have E6 := Lib.hid (s4_int (s5 (s4 (s3 (s2 (s1 x))))) 4294967296 (by have := hf.2; unfold s6 at this; omega))
  have E7 := Lib.hid (fin_int _ hf.2)
  clear b5 b4 hf
  go_enter Try.func31, Try.ntmps31
  go_wp2
  go_ret
  refine ⟨?_, rfl⟩
  change Ending.returned (Value.int .i64 _) = _
  rw [E1.out, E2.out, E3.out]
  have e4 := E4.out
  have e5 := E5.out
  have e6 := E6.out
  rw [show ((256 : Nat) : Int) = 256 from rfl] at e4
  rw [show ((65536 : Nat) : Int) = 65536 from rfl] at e5
  rw [show ((4294967296 : Nat) : Int) = 4294967296 from rfl] at e6
  rw [e4]
  change Ending.returned (Value.int .i64 (bits BinOp.and IntKind.i64 (wrap64 (IntKind.u64.wrap (IntKind.u64.wrap ((s4 (s3 (s2 (s1 x))) : Int) + (s4 (s3 (s2 (s1 x))) : Int) / 65536) + IntKind.u64.wrap ((s4 (s3 (s2 (s1 x))) : Int) + (s4 (s3 (s2 (s1 x))) : Int) / 65536) / 4294967296))) 127)) = _
  rw [e5]
  change Ending.returned (Value.int .i64 (bits BinOp.and IntKind.i64 (wrap64 (IntKind.u64.wrap ((s5 (s4 (s3 (s2 (s1 x)))) : Int) + (s5 (s4 (s3 (s2 (s1 x)))) : Int) / 4294967296))) 127)) = _
  rw [e6]
  change Ending.returned (Value.int .i64 (bits BinOp.and IntKind.i64 (wrap64 ((s6 (s5 (s4 (s3 (s2 (s1 x))))) : Nat) : Int)) 127)) = _
  rw [E7.out, H.out.1]

def lays129_ren : Go.Shelf.Ren := ⟨fun | 129 => 32 | n => n, fun | 53 => 24 | 3 => 3 | 4 => 4 | 46 => 34 | 5 => 5 | 9 => 9 | n => n, fun | n => n⟩
theorem lays129 : Go.Proofs.Lays.n129 Try.prog lays129_ren := {
  mixed := by kernel_rfl
  f129 := Try.func32.trans (congrArg some (by kernel_rfl))
  t3 := Try.underlying3
  a3 := Try.isAgg3
  z3 := Try.sizeOf3
  v3 := Try.zeroValue3
  t4 := Try.underlying4
  a4 := Try.isAgg4
  z4 := Try.sizeOf4
  v4 := Try.zeroValue4
  t5 := Try.underlying5
  a5 := Try.isAgg5
  z5 := Try.sizeOf5
  v5 := Try.zeroValue5
  t9 := Try.underlying9
  a9 := Try.isAgg9
  z9 := Try.sizeOf9
  v9 := Try.zeroValue9
  t46 := Try.underlying34
  a46 := Try.isAgg34
  z46 := Try.sizeOf34
  v46 := Try.zeroValue34
  t53 := Try.underlying24
  a53 := Try.isAgg24
  z53 := Try.sizeOf24
  v53 := Try.zeroValue24 }
theorem len64_calls (x : Nat) (w : World) (hx : x < 18446744073709551616) :
    Calls Try.prog 32 #[.int .u64 x] w fun e w' => e = .returned (.int .i64 (Lib.bitLen x : Nat)) ∧ w = w' :=
  (Any.bits_Len64 lays129 x w (by omega) (by omega)).mono fun _ _ ⟨h, h'⟩ => ⟨h, h'.symm⟩

theorem power_calls (x : Nat) (w : World) (hx : x < 18446744073709551616) :
    Calls Try.prog 26 #[.int .u64 x] w fun e w' => e = .returned (.bool (decide (pop x = 1))) ∧ w = w' := by
  go_enter Try.func26, Try.ntmps26
  go_wp2_with (first | (go_at_call 31; refine (ones64_calls _ _ hx).mono ?_; rintro e w' ⟨rfl, rfl⟩))
  go_ret
  exact ⟨congrArg (fun z => Ending.returned (.bool z)) (show ((pop x : Int) == 1) = decide (pop x = 1) by rw [Bool.eq_iff_iff]; simp; omega), rfl⟩

theorem log_calls (x : Nat) (w : World) (hx : x < 18446744073709551616) :
    Calls Try.prog 27 #[.int .u64 x] w fun e w' => e = .returned (.int .i64 ((Lib.bitLen x : Nat) - 1)) ∧ w = w' := by
  have hb := bl_le x hx
  go_enter Try.func27, Try.ntmps27
  go_wp2_with (first | (go_at_call 32; refine (len64_calls _ _ hx).mono ?_; rintro e w' ⟨rfl, rfl⟩))
  go_ret
  exact ⟨rfl, rfl⟩

theorem up_end (y : Nat) (hx : y + 1 < 18446744073709551616) (h1 : ¬ y + 1 ≤ 1) : IntKind.u64.wrap (2 ^ Lib.bitLen y) = ((upN (y + 1) : Nat) : Int) := by
  have e : (2 : Int) ^ Lib.bitLen y = ((2 ^ Lib.bitLen y : Nat) : Int) := by simp
  rw [e, wrap_nat]
  unfold upN
  rw [if_neg h1, show y + 1 - 1 = y from rfl]
  split
  · rename_i h
    have := up_small (y + 1) (by omega) h
    rw [show y + 1 - 1 = y from rfl] at this
    rw [Nat.mod_eq_of_lt]
    rw [show (18446744073709551616 : Nat) = 2 ^ 64 from rfl]
    exact Nat.pow_lt_pow_right (by decide) (by omega)
  · rename_i h
    have := up_big (y + 1) hx (by omega)
    rw [show y + 1 - 1 = y from rfl] at this
    rw [this]
theorem up_calls (x : Nat) (w : World) (hx : x < 18446744073709551616) :
    Calls Try.prog 28 #[.int .u64 x] w fun e w' => e = .returned (.int .u64 (upN x : Nat)) ∧ w = w' := by
  by_cases h1 : x ≤ 1
  · have hi : (x : Int) ≤ 1 := by omega
    go_enter Try.func28, Try.ntmps28
    go_wp2
    go_ret
    exact ⟨by simp [upN, h1], rfl⟩
  · have hi : ¬ (x : Int) ≤ 1 := by omega
    obtain ⟨y, rfl⟩ : ∃ y, x = y + 1 := ⟨x - 1, by omega⟩
    have hb := bl_le y (by omega)
    have e : IntKind.u64.wrap (((y + 1 : Nat) : Int) - 1) = (y : Int) := by rw [IntKind.wrap_u64]; omega
    go_enter Try.func28, Try.ntmps28
    go_wp2_with (first | (go_at_call 32; refine (len64_calls y _ (by omega)).mono ?_; rintro e w' ⟨rfl, rfl⟩))
    go_ret
    exact ⟨congrArg (fun z => Ending.returned (.int .u64 z)) (up_end y hx h1), rfl⟩

theorem slot_calls (p s : Nat) (w : World) (hp : p < 18446744073709551616) :
    Calls Try.prog 19 #[.int .u64 p, .int .u64 s] w fun e w' => e = .returned (.int .u64 (if s = 0 then 0 else (p % s : Nat))) ∧ w = w' := by
  by_cases h : s = 0
  · subst h
    go_enter Try.func19, Try.ntmps19
    go_wp2
    go_ret
    exact ⟨rfl, rfl⟩
  · have h1 : ¬ (s : Int) = 0 := by omega
    have hl : p % s ≤ p := Nat.mod_le _ _
    go_enter Try.func19, Try.ntmps19
    go_wp2
    go_ret
    exact ⟨rfl, rfl⟩
theorem round_calls (p s : Nat) (w : World) (hp : p < 18446744073709551616) :
    Calls Try.prog 20 #[.int .u64 p, .int .u64 s] w fun e w' => e = .returned (.int .u64 (if s = 0 then 0 else (p / s : Nat))) ∧ w = w' := by
  by_cases h : s = 0
  · subst h
    go_enter Try.func20, Try.ntmps20
    go_wp2
    go_ret
    exact ⟨rfl, rfl⟩
  · have h1 : ¬ (s : Int) = 0 := by omega
    have E := Lib.hid (show IntKind.u64.wrap ((p : Int) / (s : Int)) = (p : Int) / (s : Int) by
      rw [← Int.natCast_ediv, wrap_small _ (Nat.lt_of_le_of_lt (Nat.div_le_self _ _) hp)])
    go_enter Try.func20, Try.ntmps20
    go_wp2
    go_ret
    exact ⟨congrArg (fun z => Ending.returned (.int .u64 z)) E.out, rfl⟩
theorem at_calls (r k s : Nat) (w : World) :
    Calls Try.prog 21 #[.int .u64 r, .int .u64 k, .int .u64 s] w fun e w' => e = .returned (.int .u64 (if s = 0 then 0 else ((r * s + k) % 18446744073709551616 : Nat))) ∧ w = w' := by
  by_cases h : s = 0
  · subst h
    go_enter Try.func21, Try.ntmps21
    go_wp2
    go_ret
    exact ⟨rfl, rfl⟩
  · have h1 : ¬ (s : Int) = 0 := by omega
    have E := Lib.hid (show IntKind.u64.wrap (IntKind.u64.wrap ((r : Int) * (s : Int)) + (k : Int)) = ((r : Int) * (s : Int) + (k : Int)) % 18446744073709551616 by
      rw [IntKind.wrap_u64, IntKind.wrap_u64]; omega)
    go_enter Try.func21, Try.ntmps21
    go_wp2
    go_ret
    exact ⟨congrArg (fun z => Ending.returned (.int .u64 z)) E.out, rfl⟩

theorem rlog_calls (x : Nat) (w : World) (hx : x < 18446744073709551616) :
    Calls Try.prog 24 #[.int .u64 x] w fun e w' => e = .returned (.int .i64 ((Lib.bitLen x : Nat) - 1)) ∧ w = w' := by
  have hb := bl_le x hx
  go_enter Try.func24, Try.ntmps24
  go_wp2
  go_loop [0, 3] (fun v k => ∃ y j : Nat, y ≤ x ∧ v = .int .u64 y ∧ k = .int .i64 ((j : Int) - 1) ∧ Lib.bitLen x = j + Lib.bitLen y) (fun v _ => (intOf v).toNat)
  case atStart => exact ⟨x, 0, by omega, rfl, by go_num, by omega⟩
  case round =>
    obtain ⟨y, j, hy, rfl, rfl, hj⟩ := hrel
    rcases Nat.eq_zero_or_pos y with rfl | h0
    · have hj2 : Lib.bitLen x = j := by rw [hj, bl_zero]; rfl
      have HJ := Lib.hid hj2
      clear hj hj2
      rw [show ((0 : Nat) : Int) = 0 from rfl]
      go_wp2
      go_ret
      exact ⟨by rw [HJ.out]; rfl, rfl⟩
    · have hj2 : Lib.bitLen x = (j + 1) + Lib.bitLen (y / 2) := by rw [hj, Lib.bitLen_half y (by omega) (by omega)]; omega
      have hjb : j + 1 ≤ 64 := by omega
      have HJ := Lib.hid hj2
      clear hj hj2
      go_wp2
      go_round
      case rel => exact ⟨y / 2, j + 1, by omega, by simp, by go_num, HJ.out⟩
      case measure => simp [intOf]; omega

theorem rup_calls (x : Nat) (w : World) (hx : x < 18446744073709551616) :
    Calls Try.prog 25 #[.int .u64 x] w fun e w' => e = .returned (.int .u64 (upN x : Nat)) ∧ w = w' := by
  have HR := Lib.hid (show ∀ i, i < 64 → x ≤ 2 ^ i → (∀ k, k < i → ¬ x ≤ 2 ^ k) → upN x = 2 ^ i from fun i h1 h2 h3 => up_first x i hx h1 h2 h3)
  have HZ := Lib.hid (show (∀ k, k < 64 → ¬ x ≤ 2 ^ k) → upN x = 0 from fun h3 => up_none x h3)
  go_enter Try.func25, Try.ntmps25
  go_wp2
  go_loop [3, 4] (fun p i => ∃ k : Nat, k ≤ 64 ∧ p = .int .u64 ((2 ^ k % 18446744073709551616 : Nat)) ∧ i = .int .i64 k ∧ Hid (∀ j, j < k → ¬ x ≤ 2 ^ j)) (fun _ i => (64 - intOf i).toNat)
  case atStart => exact ⟨0, by omega, rfl, rfl, fun j h => by omega⟩
  case round =>
    obtain ⟨k, hk, rfl, rfl, hN⟩ := hrel
    by_cases h64 : k < 64
    · have hm : 2 ^ k % 18446744073709551616 = 2 ^ k := Nat.mod_eq_of_lt (by rw [show (18446744073709551616 : Nat) = 2 ^ 64 from rfl]; exact Nat.pow_lt_pow_right (by decide) h64)
      rw [hm]; clear hm
      by_cases hc : x ≤ 2 ^ k
      · have HE := Lib.hid (HR.out k h64 hc hN.out)
        generalize hq : 2 ^ k = q at *
        clear hq
        go_wp2
        go_ret
        exact ⟨by rw [HE.out]; rfl, rfl⟩
      · have HE := Lib.hid (show ∀ j, j < k + 1 → ¬ x ≤ 2 ^ j from fun j h => by
          rcases Nat.lt_or_ge j k with h1 | h1
          · exact hN.out j h1
          · obtain rfl : j = k := by omega
            exact hc)
        have HM := Lib.hid (show IntKind.u64.wrap (2 * ((2 ^ k : Nat) : Int)) = ((2 ^ (k + 1) % 18446744073709551616 : Nat) : Int) by
          rw [show 2 * ((2 ^ k : Nat) : Int) = ((2 ^ (k + 1) : Nat) : Int) by rw [Nat.pow_succ]; omega, wrap_nat])
        generalize hq : 2 ^ k = q at *
        clear hq
        go_wp2
        go_round
        case rel => exact ⟨k + 1, by omega, by rw [HM.out], by go_num, HE.out⟩
        case measure => simp [intOf]; omega
    · obtain rfl : k = 64 := by omega
      have HE := Lib.hid (HZ.out hN.out)
      clear h64
      go_wp2
      go_ret
      exact ⟨by rw [HE.out]; rfl, rfl⟩
end Go.Proofs.Ytpalehomjgbacaa
