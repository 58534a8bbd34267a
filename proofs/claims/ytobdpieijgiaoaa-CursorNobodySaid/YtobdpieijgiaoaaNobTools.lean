/- CursorNobody: tools. -/
import Derived.Test.YtobdpieijgiaoaaTells
import Derived.Test.YtobdpieijgiaoaaSetup
namespace Go.Proofs.Ytobdpieijgiaoaa
open Go.RowKit Go.Deep

theorem pow_and : ∀ s : Fin 1025, 1 ≤ s.val → decide (pop s.val = 1) = decide (s.val &&& (s.val - 1) = 0) := by decide +kernel
theorem and_i64 (a b : Nat) (ha : a < 9223372036854775808) (hb : b < 9223372036854775808) : bits .and .i64 (a : Int) (b : Int) = ((a &&& b : Nat) : Int) := by
  show IntKind.i64.wrap ((BitVec.ofInt 64 a &&& BitVec.ofInt 64 b).toNat : Nat) = _
  have h1 : (BitVec.ofInt 64 (a : Int)).toNat = a := by rw [BitVec.toNat_ofInt]; omega
  have h2 : (BitVec.ofInt 64 (b : Int)).toNat = b := by rw [BitVec.toNat_ofInt]; omega
  rw [BitVec.toNat_and, h1, h2, IntKind.wrap_i64]
  have := @Nat.and_le_left a b
  omega

/-- the five tests of the law's own 'right', one way or the other. -/
def Tests (A S : Int) (r : Bool) : Prop :=
  (r = false ∧ decide (0 ≤ A) = false) ∨ (r = false ∧ decide (0 ≤ A) = true ∧ decide (A ≤ 65536) = false) ∨ (r = false ∧ decide (0 ≤ A) = true ∧ decide (A ≤ 65536) = true ∧ decide (1 ≤ S) = false) ∨
  (r = false ∧ decide (0 ≤ A) = true ∧ decide (A ≤ 65536) = true ∧ decide (1 ≤ S) = true ∧ decide (S ≤ 1024) = false) ∨
  ((bits .and .i64 S (wrap64 (S - 1)) == 0) = r ∧ decide (0 ≤ A) = true ∧ decide (A ≤ 65536) = true ∧ decide (1 ≤ S) = true ∧ decide (S ≤ 1024) = true)
theorem tests_of (A S : Int) : Tests A S (rightC A S) := by
  unfold Tests rightC
  by_cases h1 : 0 ≤ A
  · by_cases h2 : A ≤ 65536
    · by_cases h3 : 1 ≤ S
      · by_cases h4 : S ≤ 1024
        · right; right; right; right
          obtain ⟨s, rfl⟩ : ∃ s : Nat, S = s := ⟨S.toNat, by omega⟩
          refine ⟨?_, by simp [h1], by simp [h2], by simp; omega, by simp; omega⟩
          rw [show wrap64 ((s : Int) - 1) = ((s - 1 : Nat) : Int) by unfold wrap64; omega, and_i64 s (s - 1) (by omega) (by omega)]
          have := pow_and ⟨s, by omega⟩ (by show 1 ≤ s; omega)
          simp only [Int.toNat_natCast]
          rw [this]
          simp [h1, h2, h3, h4]
          rw [Bool.eq_iff_iff]
          simp
        · right; right; right; left; simp [h1, h2, h3, h4]
      · right; right; left; simp [h1, h2, h3]
    · right; left; simp [h1, h2]
  · left; simp [h1]
theorem step_nil (b : Nat) (w : World) : Calls Try.prog 13 #[.pointer none, .pointer (some ⟨b, 0, none⟩)] w fun e w' => e = .returned (.bool true) ∧ w = w' := by
  go_enter Try.func13, Try.ntmps13
  go_wp2_with (first | (go_at_call 11; refine (done_nil _).mono ?_; rintro e w' ⟨rfl, rfl⟩))
  go_ret
  exact ⟨rfl, rfl⟩
theorem begun_ok {w w' : World} {A S M : Int} {cs : List Value} {n : Nat} {g : Bool} {e : Ending} (h : Begun w w' A S M cs n g e) :
    ∃ bo bwd, e = .returned (.pointer (some ⟨bo, 0, none⟩)) ∧ Blk w' bo 68 (opCells A S M bwd n (if g then 0 else 3) 0 0 0 (if g then 0 else 2)) ∧ w.heap.size ≤ bo ∧ Below w.heap.size w w' := by
  obtain ⟨bo, bwd, h1, h2, _, h4, _, _, h7⟩ := h
  exact ⟨bo, bwd, h1, h2, h4, h7⟩
/-- many zeros. -/
theorem claim65 (w : World) (g : Nat) (hg : Blk w g 3 (intVals (List.replicate 65 0))) :
    Calls Try.prog 9 #[.agg #[.int .i64 0, .int .i64 1], .int .i64 1, .slice (some ⟨g, 0, none⟩) 65 65] w fun e w' => ∃ bo bwd, e = .returned (.pointer (some ⟨bo, 0, none⟩)) ∧ Blk w' bo 68 (opCells 0 1 1 bwd 65 3 0 0 0 2) ∧ w.heap.size ≤ bo ∧ Below w.heap.size w w' := by
  have h := claim_calls 0 1 1 (some ⟨g, 0, none⟩) 65 (List.replicate 65 0) w (by simp) (fun _ => ⟨_, rfl, fun j v hv => by rw [add_none, hg.cell]; simpa using hv⟩)
  rw [List.length_replicate] at h
  have hok : (okB 0 1 1 65 && decide (1 ≤ (1 : Int))) = false := by unfold okB; simp
  rw [hok] at h
  exact h.mono fun e w' hb => by
    obtain ⟨bo, bwd, h1, h2, h3, h4⟩ := begun_ok hb
    exact ⟨bo, bwd, h1, h2, h3, h4⟩

end Go.Proofs.Ytobdpieijgiaoaa
