/- contracts of the reference's functions on fields. -/
import Derived.Test.YtpalehomjgbacaaA
import Derived.Deep.LoopGhost
import Derived.Lib.Hide
namespace Go.Proofs.Ytpalehomjgbacaa
open Go.RowKit

theorem own_calls (a n : Int) (w : World) :
    Calls Try.prog 9 #[.agg #[.int .i64 a, .int .i64 n]] w fun e w' => e = .returned (.agg #[.int .i64 a, .int .i64 n]) ∧ Below w.heap.size w w' := by
  go_enter Try.func9, Try.ntmps9
  go_wp2
  refine bodyPost_ret (v := .agg #[.int .i64 a, .int .i64 n]) (by simp [results, Try.results9, go_sem]) rfl ⟨rfl, ?_⟩
  exact ((Below.refl _ _).alloc (Nat.le_refl _) _).alloc (by simp) _

theorem rright_calls (a n : Int) (w : World) :
    Calls Try.prog 10 #[.agg #[.int .i64 a, .int .i64 n]] w fun e w' => e = .returned (.bool (rightB a n)) ∧ w' = w.alloc (.cells #[.int .i64 a, .int .i64 n] 25) := by
  unfold rightB
  by_cases h1 : 0 ≤ a
  · by_cases h2 : 1 ≤ n
    · by_cases h3 : a ≤ 64
      · go_enter Try.func10, Try.ntmps10
        go_wp2
        go_ret
        exact ⟨by simp [h1, h2]; omega, rfl⟩
      · go_enter Try.func10, Try.ntmps10
        go_wp2
        go_ret
        exact ⟨by simp; omega, rfl⟩
    · go_enter Try.func10, Try.ntmps10
      go_wp2
      go_ret
      exact ⟨by simp; omega, rfl⟩
  · go_enter Try.func10, Try.ntmps10
    go_wp2
    go_ret
    exact ⟨by simp; omega, rfl⟩

theorem bit_calls (x : Nat) (n : Int) (w : World) (hx : x < 18446744073709551616) (h0 : 0 ≤ n) (h1 : n < 64) :
    Calls Try.prog 29 #[.int .u64 x, .int .i64 n] w fun e w' => e = .returned (.int .u64 (bitN x n.toNat : Nat)) ∧ w = w' := by
  go_enter Try.func29, Try.ntmps29
  go_wp2
  go_loop [0, 5] (fun v i => ∃ k : Nat, (k : Int) ≤ n ∧ v = .int .u64 (x / 2 ^ k : Nat) ∧ i = .int .i64 k) (fun _ i => (n - intOf i).toNat)
  case atStart => exact ⟨0, by omega, by simp, rfl⟩
  case round =>
    obtain ⟨k, hk, rfl, rfl⟩ := hrel
    have hlt : x / 2 ^ k < 18446744073709551616 := Nat.lt_of_le_of_lt (Nat.div_le_self _ _) hx
    have HQ := Lib.hid (show x / 2 ^ (k + 1) = x / 2 ^ k / 2 by rw [Nat.pow_succ, Nat.div_div_eq_div_mul])
    by_cases hc : (k : Int) < n
    · generalize hq : x / 2 ^ k = q at *
      have HQ2 := Lib.hid hq; clear hq
      go_wp2
      go_round
      case rel => exact ⟨k + 1, by omega, by rw [HQ.out]; simp, by go_num⟩
      case measure => simp [intOf]; omega
    · have hk' : n.toNat = k := by omega
      have HK := Lib.hid hk'; clear hk'
      have HB := Lib.hid (show bitN x k = x / 2 ^ k % 2 from rfl)
      generalize hq : x / 2 ^ k = q at *
      clear hq
      go_wp2
      go_ret
      exact ⟨by rw [HK.out, HB.out]; simp, rfl⟩

theorem u64_2q (q b : Nat) (h : 2 * q + b < 18446744073709551616) : IntKind.u64.wrap (IntKind.u64.wrap (2 * (q : Int)) + (b : Int)) = ((2 * q + b : Nat) : Int) := by
  rw [IntKind.wrap_u64, IntKind.wrap_u64]; omega

theorem rget_calls (a n : Int) (x : Nat) (w : World) (hx : x < 18446744073709551616) :
    Calls Try.prog 11 #[.agg #[.int .i64 a, .int .i64 n], .int .u64 x] w fun e w' => e = .returned (.int .u64 (getF a n x : Nat)) ∧ Below w.heap.size w w' := by
  have hbel : Below w.heap.size w ((w.alloc (.cells #[.int .i64 a, .int .i64 n] 25)).alloc (.cells #[.int .i64 a, .int .i64 n] 25)) :=
    ((Below.refl _ _).alloc (Nat.le_refl _) _).alloc (by simp) _
  cases hb : rightB a n with
  | true =>
    obtain ⟨h1, h2, h3, h4⟩ := (right_iff a n).1 hb
    have HG := Lib.hid (show getF a n x = x / 2 ^ a.toNat % 2 ^ n.toNat by simp [getF, hb])
    have HBel := Lib.hid hbel; clear hbel
    obtain ⟨p, rfl⟩ := Int.eq_ofNat_of_zero_le h1
    obtain ⟨m, rfl⟩ := Int.eq_ofNat_of_zero_le (show 0 ≤ n by omega)
    simp only [Int.toNat_natCast] at HG
    go_enter Try.func11, Try.ntmps11
    go_wp2_with (first | (go_at_call 10; refine (rright_calls _ _ _).mono ?_; rintro e w' ⟨rfl, rfl⟩; simp only [hb]))
    clear hb
    go_loop [5, 6] (fun v i => ∃ k : Nat, k ≤ m ∧ v = .int .u64 (x / 2 ^ (p + k) % 2 ^ (m - k) : Nat) ∧ i = .int .i64 ((k : Int) - 1)) (fun _ i => (intOf i + 1).toNat)
    case atStart => exact ⟨m, by omega, by simp [Nat.mod_one], by go_num⟩
    case round =>
      obtain ⟨k, hk, rfl, rfl⟩ := hrel
      cases k with
      | zero =>
        go_wp2
        go_ret
        exact ⟨by rw [HG.out]; simp, HBel.out⟩
      | succ k =>
        have HS := Lib.hid (get_step x p m k hk)
        have hl := get_lt x p (m - k) (by omega)
        have hl2 := Lib.hid (get_lt x (p + k) (m - k) (by omega)); clear hl
        have e : (((k + 1 : Nat) : Int) - 1) = k := by omega
        rw [e]; clear e
        generalize hq : x / 2 ^ (p + (k + 1)) % 2 ^ (m - (k + 1)) = q at *
        clear hq
        have hz : (0 : Int) ≤ (p : Int) + k := by omega
        go_wp2_with (first | (go_at_call 29; refine (bit_calls _ _ _ hx (by omega) (by omega)).mono ?_; rintro e w' ⟨rfl, rfl⟩))
        go_round
        case rel => exact ⟨k, by omega, by rw [u64_2q _ _ (by rw [HS.out]; exact hl2.out), HS.out], rfl⟩
        case measure => simp [intOf]
  | false =>
    have HBel := Lib.hid hbel; clear hbel
    go_enter Try.func11, Try.ntmps11
    go_wp2_with (first | (go_at_call 10; refine (rright_calls _ _ _).mono ?_; rintro e w' ⟨rfl, rfl⟩; simp only [hb]))
    go_ret
    exact ⟨by simp [getF, hb], HBel.out⟩

theorem rset_calls (a n : Int) (x v : Nat) (w : World) (hx : x < 18446744073709551616) (hv : v < 18446744073709551616) :
    Calls Try.prog 16 #[.agg #[.int .i64 a, .int .i64 n], .int .u64 x, .int .u64 v] w fun e w' => e = .returned (.int .u64 (setF a n x v : Nat)) ∧ Below w.heap.size w w' := by
  have hbel : Below w.heap.size w ((w.alloc (.cells #[.int .i64 a, .int .i64 n] 25)).alloc (.cells #[.int .i64 a, .int .i64 n] 25)) :=
    ((Below.refl _ _).alloc (Nat.le_refl _) _).alloc (by simp) _
  cases hb : rightB a n with
  | true =>
    obtain ⟨h1, h2, h3, h4⟩ := (right_iff a n).1 hb
    have HG := Lib.hid (show setF a n x v = setN a.toNat n.toNat x v by simp [setF, hb])
    have HBel := Lib.hid hbel; clear hbel
    obtain ⟨p, rfl⟩ := Int.eq_ofNat_of_zero_le h1
    obtain ⟨m, rfl⟩ := Int.eq_ofNat_of_zero_le (show 0 ≤ n by omega)
    simp only [Int.toNat_natCast] at HG
    have HL := Lib.hid (setN_lt p m x v hx (by omega))
    have HSt := Lib.hid (fun k => set_step p m x v k hx (by omega))
    go_enter Try.func16, Try.ntmps16
    go_wp2_with (first | (go_at_call 10; refine (rright_calls _ _ _).mono ?_; rintro e w' ⟨rfl, rfl⟩; simp only [hb]))
    clear hb
    go_loop [7, 8, 9] (fun o i b => ∃ k : Nat, k ≤ 64 ∧ o = .int .u64 (setN p m x v / 2 ^ k : Nat) ∧ i = .int .i64 ((k : Int) - 1)) (fun _ i _ => (intOf i + 1).toNat)
    case atStart => exact ⟨64, by omega, by rw [Nat.div_eq_of_lt HL.out]; rfl, by go_num⟩
    case round =>
      obtain ⟨k, hk, rfl, rfl⟩ := hrel
      cases k with
      | zero =>
        go_wp2
        go_ret
        exact ⟨by rw [HG.out]; simp, HBel.out⟩
      | succ k =>
        have HS := Lib.hid (HSt.out k)
        have hl2 := Lib.hid (Nat.lt_of_le_of_lt (Nat.div_le_self _ (2 ^ k)) HL.out)
        have e : (((k + 1 : Nat) : Int) - 1) = k := by omega
        rw [e]; clear e
        by_cases c1 : p ≤ k
        · by_cases c2 : k < p + m
          · rw [if_pos ⟨c1, c2⟩] at HS
            generalize hq : setN p m x v / 2 ^ (k + 1) = q at *
            clear hq
            have hz : (0 : Int) ≤ (k : Int) - p := by omega
            have hz2 : (k : Int) - p < m := by omega
            go_wp2_with (first | (go_at_call 29; refine (bit_calls _ _ _ (by assumption) (by omega) (by omega)).mono ?_; rintro e w' ⟨rfl, rfl⟩))
            go_round
            case rel => exact ⟨k, by omega, by rw [u64_2q _ _ (by rw [HS.out]; exact hl2.out), HS.out], rfl⟩
            case measure => simp [intOf]
          · rw [if_neg (fun h => c2 h.2)] at HS
            generalize hq : setN p m x v / 2 ^ (k + 1) = q at *
            clear hq
            have hz : (0 : Int) ≤ (k : Int) - p := by omega
            have hz2 : ¬ ((k : Int) - p < m) := by omega
            go_wp2_with (first | (go_at_call 29; refine (bit_calls _ _ _ (by assumption) (by omega) (by omega)).mono ?_; rintro e w' ⟨rfl, rfl⟩))
            go_round
            case rel => exact ⟨k, by omega, by rw [u64_2q _ _ (by rw [HS.out]; exact hl2.out), HS.out], rfl⟩
            case measure => simp [intOf]
        · rw [if_neg (fun h => c1 h.1)] at HS
          generalize hq : setN p m x v / 2 ^ (k + 1) = q at *
          clear hq
          go_wp2_with (first | (go_at_call 29; refine (bit_calls _ _ _ (by assumption) (by omega) (by omega)).mono ?_; rintro e w' ⟨rfl, rfl⟩))
          go_round
          case rel => exact ⟨k, by omega, by rw [u64_2q _ _ (by rw [HS.out]; exact hl2.out), HS.out], rfl⟩
          case measure => simp [intOf]
  | false =>
    have HBel := Lib.hid hbel; clear hbel
    go_enter Try.func16, Try.ntmps16
    go_wp2_with (first | (go_at_call 10; refine (rright_calls _ _ _).mono ?_; rintro e w' ⟨rfl, rfl⟩; simp only [hb]))
    go_ret
    exact ⟨by simp [setF, hb], HBel.out⟩
end Go.Proofs.Ytpalehomjgbacaa
