/- WordSets: the walk. -/
import Derived.Test.YtpalehomjgbacaaK
import Derived.Laws.Bits128
namespace Go.Proofs.Ytpalehomjgbacaa
open Go.RowKit

theorem set_test (a n : Int) (x v i : Nat) (hx : x < 18446744073709551616) : (setF a n x v).testBit i = if (maskF a n).testBit i then v.testBit (i - a.toNat) else x.testBit i := by
  unfold setF maskF
  cases hr : rightB a n with
  | true =>
    obtain ⟨h1, h2, h3, h4⟩ := (right_iff a n).1 hr
    simp only [if_true]
    rw [setN_bit _ _ _ _ _ hx (by omega), mask_bit]
    simp
  | false => simp
theorem set_twice (a n : Int) (x u v : Nat) (hx : x < 18446744073709551616) : setF a n (setF a n x u) v = setF a n x v := by
  apply Nat.eq_of_testBit_eq
  intro i
  rw [set_test _ _ _ _ _ (setF_lt _ _ _ _ hx), set_test _ _ _ _ _ hx, set_test _ _ _ _ _ hx]
  split <;> rfl
theorem set_comm (a n b m : Int) (x u v : Nat) (hx : x < 18446744073709551616) (hd : maskF a n &&& maskF b m = 0) : setF b m (setF a n x u) v = setF a n (setF b m x v) u := by
  apply Nat.eq_of_testBit_eq
  intro i
  rw [set_test _ _ _ _ _ (setF_lt _ _ _ _ hx), set_test _ _ _ _ _ hx, set_test _ _ _ _ _ (setF_lt _ _ _ _ hx), set_test _ _ _ _ _ hx]
  have := and_zero_test hd i
  cases h1 : (maskF a n).testBit i <;> cases h2 : (maskF b m).testBit i <;> simp_all
theorem set_xor (a n : Int) (x v : Nat) (hx : x < 18446744073709551616) (hr : rightB a n = true) : x ^^^ setF a n x v = setF a n 0 ((x / 2 ^ a.toNat) ^^^ v) := by
  obtain ⟨h1, h2, h3, h4⟩ := (right_iff a n).1 hr
  apply Nat.eq_of_testBit_eq
  intro i
  rw [Nat.testBit_xor, set_test _ _ _ _ _ hx, set_test _ _ _ _ _ (by decide)]
  have hm : (maskF a n).testBit i = true → a.toNat ≤ i := by
    simp only [maskF, hr, if_true, mask_bit]; simp; omega
  split
  · rename_i c
    rw [Nat.testBit_xor, Nat.testBit_div_two_pow, show i - a.toNat + a.toNat = i by have := hm c; omega]
  · simp

theorem two_rows (w : World) (a0 a1 b0 b1 : Int) (h0 : (Lit.int .i64 a0).wf = true) (h1 : (Lit.int .i64 a1).wf = true) (h2 : (Lit.int .i64 b0).wf = true) (h3 : (Lit.int .i64 b1).wf = true) :
    RowsAt (w.alloc (.cells #[.int .i64 a0, .int .i64 a1, .int .i64 b0, .int .i64 b1] 23)) [.i64, .i64] (some ⟨w.heap.size, 0, none⟩) 2 2 [[a0, a1], [b0, b1]] := by
  refine ⟨rfl, by omega, by omega, ?_, fun _ => ⟨_, _, rfl, ?_⟩⟩
  · intro z hz
    simp only [List.mem_cons, List.not_mem_nil, or_false] at hz
    rcases hz with rfl | rfl
    · exact ⟨h0, h1, trivial⟩
    · exact ⟨h2, h3, trivial⟩
  · intro i hi j u hu
    rw [World.cell?_alloc_new]
    match i, j, hi, hu with
    | 0, 0, _, hu => simpa [valsOf] using hu
    | 0, 1, _, hu => simpa [valsOf] using hu
    | 0, j + 2, _, hu => simp [valsOf] at hu
    | 1, 0, _, hu => simpa [valsOf] using hu
    | 1, 1, _, hu => simpa [valsOf] using hu
    | 1, j + 2, _, hu => simp [valsOf] at hu
    | i + 2, _, hi, _ => omega
/-- two fields are apart. -/
def apart2 (a0 a1 b0 b1 : Int) : Bool := rightB a0 a1 && (rightB b0 b1 && (maskF a0 a1 &&& maskF b0 b1 == 0))
theorem apart2_calls (a0 a1 b0 b1 : Int) (h0 : (Lit.int .i64 a0).wf = true) (h1 : (Lit.int .i64 a1).wf = true) (h2 : (Lit.int .i64 b0).wf = true) (h3 : (Lit.int .i64 b1).wf = true) (b : Bool) (hb : apart2 a0 a1 b0 b1 = b) (w : World) :
    Calls Try.prog 18 #[.slice (some ⟨w.heap.size, 0, none⟩) 2 2] (w.alloc (.cells #[.int .i64 a0, .int .i64 a1, .int .i64 b0, .int .i64 b1] 23)) fun e w' => e = .returned (.bool b) ∧ Below (w.alloc (.cells #[.int .i64 a0, .int .i64 a1, .int .i64 b0, .int .i64 b1] 23)).heap.size (w.alloc (.cells #[.int .i64 a0, .int .i64 a1, .int .i64 b0, .int .i64 b1] 23)) w' := by
  have h := apart_calls _ 2 2 [[a0, a1], [b0, b1]] _ (two_rows w a0 a1 b0 b1 h0 h1 h2 h3)
  have e : apartU [[a0, a1], [b0, b1]] 2 0 0 = b := by
    rw [← hb]
    simp [apartU, apart2, fA, fB]
  rw [e] at h
  exact h
end Go.Proofs.Ytpalehomjgbacaa
