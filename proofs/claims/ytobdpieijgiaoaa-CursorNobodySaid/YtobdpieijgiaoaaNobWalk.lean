/- the walk of CursorNobody, joined. -/
import Derived.Test.YtobdpieijgiaoaaNobZ
namespace Go.Proofs.Ytobdpieijgiaoaa
open Go.RowKit Go.Deep

theorem cursorNobody_walk (A : Int) (_hA : (Lit.int .i64 A).wf = true) (S : Int) (_hS : (Lit.int .i64 S).wf = true) (M : Int) (_hM : (Lit.int .i64 M).wf = true) (X : Int) (hX : (Lit.int .u64 X).wf = true) (W : World) :
    Calls Try.prog 3 #[.agg #[.int .i64 A, .int .i64 S], .int .i64 M, .int .u64 X] W fun e w' => e = .returned (.bool true) ∧ Below W.heap.size W w' := by
  obtain ⟨x, rfl, -⟩ := u64_nat hX
  refine nobody_core A S M x W (rightC A S) (rightC A S && decide (1 ≤ M) && decide (M ≤ S)) (rightC A S && decide (A < 4) && decide ((x : Int) < 4611686018427387904)) (tests_of A S) ?_ ?_ (Lib.hid ?_) (Lib.hid ?_) (Lib.hid ?_) (Lib.hid ?_)
  · cases h1 : rightC A S
    · left; simp
    · cases h2 : decide (1 ≤ M)
      · right; left; simp
      · right; right; simp
  · cases h1 : rightC A S
    · left; simp
    · cases h2 : decide (A < 4)
      · right; left; simp
      · right; right; simp
  · intro w g hc
    have h := claim_calls A S M (some ⟨g, 0, none⟩) 1 [0] w (by decide) (fun _ => ⟨_, rfl, fun j v hv => by
      rw [add_none]
      match j with
      | 0 => simp [intVals] at hv; subst hv; simpa using hc
      | j + 1 => simp [intVals] at hv⟩)
    have hok : (okB A S M [(0 : Int)].length && decide (1 ≤ M)) = (rightC A S && decide (1 ≤ M) && decide (M ≤ S)) := by
      unfold okB
      cases rightC A S
      · simp
      · simp only [Bool.true_and, List.length_singleton]
        rw [Bool.eq_iff_iff]
        simp
        omega
    rw [hok] at h
    exact h
  · intro w b bw bb hm
    have hdone : ∀ e w', (e = Ending.returned (.int .i64 2) ∧ Below w.heap.size w w') → (e = Ending.returned (.int .i64 ((if false then 0 else 2 : Nat) : Int)) ∧ (∃ ws, MemAt w' b bw bb ws) ∧ Chg (fun j => j = b ∨ j = bw) w w') := fun e w' ⟨h1, h2⟩ => ⟨h1, ⟨_, hm.below h2⟩, chg_of_below _ h2⟩
    cases h1 : rightC A S
    · exact (setup_bad1 A S x b bw bb _ w hm h1).mono hdone
    · by_cases h2 : A < 4
      · have hA0 : 0 ≤ A := by
          unfold rightC at h1; simp at h1; exact h1.1.1
        have hS0 : 1 ≤ S := by
          unfold rightC at h1; simp at h1; exact h1.1.2.2.1
        by_cases h3 : (x : Int) < 4611686018427387904
        · obtain ⟨a, rfl⟩ : ∃ a : Nat, A = a := ⟨A.toNat, by omega⟩
          obtain ⟨s, rfl⟩ : ∃ s : Nat, S = s := ⟨S.toNat, by omega⟩
          have e1 : decide ((a : Int) < 4) = true := by simp; omega
          have e2 : decide ((x : Int) < 4611686018427387904) = true := by simp [h3]
          rw [e1, e2]
          exact (setup_calls a s x b bw bb _ w hm h1 (by show a < 4; omega) (by omega)).mono fun e w' ⟨g1, g2, g3⟩ => ⟨g1, ⟨_, g2⟩, g3⟩
        · have e2 : decide ((x : Int) < 4611686018427387904) = false := by simp; omega
          rw [e2, Bool.and_false]
          exact (setup_bad3 A S x b bw bb _ w hm h1 (by show A < 4; omega) (by omega)).mono hdone
      · have e1 : decide (A < 4) = false := by simp; omega
        rw [e1, Bool.and_false, Bool.false_and]
        exact (setup_bad2 A S x b bw bb _ w hm h1 (by show (4 : Int) ≤ A; omega)).mono hdone
  · intro w
    have h := tell_calls A S w
    have hok : okB A S 0 0 = rightC A S := by
      unfold okB
      cases h1 : rightC A S
      · simp
      · unfold rightC at h1
        simp at h1
        simp
        omega
    rw [hok] at h
    exact h
  · exact fun w => right_b A S w
end Go.Proofs.Ytobdpieijgiaoaa
