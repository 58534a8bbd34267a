/- Size, Trap; small masks. -/
import Derived.Test.YtjmooohhndjmiaaMem
namespace Go.Proofs.Ytjmooohhndjmiaa
open Go.RowKit Go.Deep

theorem and_mask (n : Int) (j : Nat) (hj : j ≤ 8) : bits .and .i64 n ((2 ^ j - 1 : Nat) : Int) = n % ((2 ^ j : Nat) : Int) := by
  have key : (BitVec.ofInt 64 n &&& BitVec.ofInt 64 ((2 ^ j - 1 : Nat) : Int)).toNat = (n % ((2 ^ 64 : Nat) : Int)).toNat % 2 ^ j := by
    have h1 : (BitVec.ofInt 64 ((2 ^ j - 1 : Nat) : Int)).toNat = 2 ^ j - 1 := by
      match j, hj with
      | 0, _ | 1, _ | 2, _ | 3, _ | 4, _ | 5, _ | 6, _ | 7, _ | 8, _ => decide
    rw [BitVec.toNat_and, BitVec.toNat_ofInt, h1, Nat.and_two_pow_sub_one_eq_mod]
  show IntKind.i64.wrap ((BitVec.ofInt 64 n &&& BitVec.ofInt 64 ((2 ^ j - 1 : Nat) : Int)).toNat : Nat) = _
  rw [key, IntKind.wrap_i64]
  match j, hj with
  | 0, _ | 1, _ | 2, _ | 3, _ | 4, _ | 5, _ | 6, _ | 7, _ | 8, _ => simp only [Nat.reducePow]; omega
theorem and3 (n : Int) : bits .and .i64 n 3 = n % 4 := and_mask n 2 (by decide)
theorem and7 (n : Int) : bits .and .i64 n 7 = n % 8 := and_mask n 3 (by decide)
theorem and15 (n : Int) : bits .and .i64 n 15 = n % 16 := and_mask n 4 (by decide)
theorem and31 (n : Int) : bits .and .i64 n 31 = n % 32 := and_mask n 5 (by decide)

theorem trap_calls (b bw bb : Nat) (ws : List Nat) (w : World) (hm : MemAt w b bw bb ws) :
    Calls Try.prog 19 #[.pointer (some ⟨b, 0, none⟩)] w fun e w' => e = .returned (.int .i64 (-1)) ∧ w = w' := by
  obtain ⟨c0, c1, c2, c3, c4, c5, hb⟩ := hm.top
  have h8 : w.cell? ⟨b, 8, none⟩ = some (.int .i64 (-1)) := hb.cell 8
  have HN := Lib.hid (none_calls b bw bb ws w hm)
  clear hb hm
  go_enter Try.func19, Try.ntmps19
  go_wp2_with (first | (go_at_call 43; refine HN.out.mono ?_; rintro e w' ⟨rfl, rfl⟩))
  go_ret
  exact ⟨rfl, rfl⟩
end Go.Proofs.Ytjmooohhndjmiaa
