/- contracts of the law's own functions: right, Plain, alike. -/
import Derived.Test.YtgfingdopelinaaScH
import Derived.Test.YtgfingdopelinaaScS
namespace Go.Proofs.Ytgfingdopelinaa
set_option linter.unusedSimpArgs false
set_option linter.unusedVariables false
open Go.RowKit Go.Deep

/-- the law's own right. -/
def lrB (e : En) : Bool := inB e.thread 0 63 && (e.pick || (inB e.kind 0 4 && inB e.topic 0 3 && (if e.kind = 0 then inB e.mode 0 2 && decide ((e.text.size : Int) ≤ 64) else decide (e.kind = 1) || inB e.gk 0 7)))
theorem lrB_eq (e : En) : lrB e = e.rightB := by
  unfold lrB En.rightB callB
  obtain ⟨th, pk, kd, tp, gk, gn, md, tx, ps⟩ := e
  cases pk with
  | true => simp
  | false =>
    unfold En.clean
    simp only [Bool.false_eq_true, if_false, Bool.false_or]
    congr 1
    by_cases h0 : kd = 0
    · subst h0
      simp [enZero, inB]
      rw [Bool.eq_iff_iff]
      simp
      omega
    · rw [if_neg h0, if_neg h0]
      by_cases h4 : kd = 4
      · subst h4
        rw [Bool.eq_iff_iff]
        simp [enZero, inB, noText, ByteArray.size]
      · rw [if_neg h4]
        by_cases h23 : kd = 2 ∨ kd = 3
        · rw [if_pos h23, Bool.eq_iff_iff]
          simp [enZero, inB, noText, ByteArray.size]
          omega
        · rw [if_neg h23, Bool.eq_iff_iff]
          simp [enZero, inB, noText, ByteArray.size]
          omega
set_option maxRecDepth 100000 in
set_option maxHeartbeats 8000000 in
theorem lright_calls (e : En) (w : World) : Calls Try.prog 10 #[e.val] w fun r w' => r = .returned (.bool e.rightB) ∧ Below w.heap.size w w' := by
  rw [← lrB_eq]
  have HR : Hid (lrB e = (inB e.thread 0 63 && (e.pick || (inB e.kind 0 4 && inB e.topic 0 3 && (if e.kind = 0 then inB e.mode 0 2 && decide ((e.text.size : Int) ≤ 64) else decide (e.kind = 1) || inB e.gk 0 7))))) := Lib.hid rfl
  generalize lrB e = R at HR ⊢
  obtain ⟨th, pk, kd, tp, gk, gn, md, tx, ps⟩ := e
  unfold En.val
  dsimp only at HR ⊢
  by_cases ta : th < 0
  · go_enter Try.func10, Try.ntmps10
    go_wp2
    go_ret
    exact ⟨by rw [HR.out]; simp [inB, *] <;> omega, bnew (bnew (Below.refl _ _) _) _⟩
  · by_cases tb : 63 < th
    · go_enter Try.func10, Try.ntmps10
      go_wp2
      go_ret
      exact ⟨by rw [HR.out]; simp [inB, *] <;> omega, bnew (bnew (Below.refl _ _) _) _⟩
    · by_cases p : pk = true
      · subst p
        go_enter Try.func10, Try.ntmps10
        go_wp2
        go_ret
        exact ⟨by rw [HR.out]; simp [inB, *] <;> omega, bnew (bnew (Below.refl _ _) _) _⟩
      · have p2 : pk = false := by simpa using p
        subst p2
        by_cases ka : kd < 0
        · go_enter Try.func10, Try.ntmps10
          go_wp2
          go_ret
          exact ⟨by rw [HR.out]; simp [inB, *] <;> omega, bnew (bnew (Below.refl _ _) _) _⟩
        · by_cases kb : 4 < kd
          · go_enter Try.func10, Try.ntmps10
            go_wp2
            go_ret
            exact ⟨by rw [HR.out]; simp [inB, *] <;> omega, bnew (bnew (Below.refl _ _) _) _⟩
          · by_cases oa : tp < 0
            · go_enter Try.func10, Try.ntmps10
              go_wp2
              go_ret
              exact ⟨by rw [HR.out]; simp [inB, *] <;> omega, bnew (bnew (Below.refl _ _) _) _⟩
            · by_cases ob : 3 < tp
              · go_enter Try.func10, Try.ntmps10
                go_wp2
                go_ret
                exact ⟨by rw [HR.out]; simp [inB, *] <;> omega, bnew (bnew (Below.refl _ _) _) _⟩
              · by_cases z : kd = 0
                · have t0 : (kd == 0) = true := by rw [beq_iff_eq]; omega
                  by_cases ma : md < 0
                  · go_enter Try.func10, Try.ntmps10
                    go_wp2
                    go_ret
                    exact ⟨by rw [HR.out]; simp [inB, *] <;> omega, bnew (bnew (Below.refl _ _) _) _⟩
                  · by_cases mb : 2 < md
                    · go_enter Try.func10, Try.ntmps10
                      go_wp2
                      go_ret
                      exact ⟨by rw [HR.out]; simp [inB, *] <;> omega, bnew (bnew (Below.refl _ _) _) _⟩
                    · by_cases s : tx.size ≤ 64
                      · have ts : decide ((tx.size : Int) ≤ 64) = true := by simp; omega
                        go_enter Try.func10, Try.ntmps10
                        go_wp2
                        go_ret
                        exact ⟨by rw [HR.out]; simp [inB, *] <;> omega, bnew (bnew (Below.refl _ _) _) _⟩
                      · have ts : decide ((tx.size : Int) ≤ 64) = false := by simp; omega
                        go_enter Try.func10, Try.ntmps10
                        go_wp2
                        go_ret
                        exact ⟨by rw [HR.out]; simp [inB, *] <;> omega, bnew (bnew (Below.refl _ _) _) _⟩
                · have t0 : (kd == 0) = false := by rw [beq_eq_false_iff_ne]; omega
                  by_cases one : kd = 1
                  · have t1 : (kd == 1) = true := by rw [beq_iff_eq]; omega
                    go_enter Try.func10, Try.ntmps10
                    go_wp2
                    go_ret
                    exact ⟨by rw [HR.out]; simp [inB, *] <;> omega, bnew (bnew (Below.refl _ _) _) _⟩
                  · have t1 : (kd == 1) = false := by rw [beq_eq_false_iff_ne]; omega
                    by_cases ga : gk < 0
                    · go_enter Try.func10, Try.ntmps10
                      go_wp2
                      go_ret
                      exact ⟨by rw [HR.out]; simp [inB, *] <;> omega, bnew (bnew (Below.refl _ _) _) _⟩
                    · by_cases gb : 7 < gk
                      · go_enter Try.func10, Try.ntmps10
                        go_wp2
                        go_ret
                        exact ⟨by rw [HR.out]; simp [inB, *] <;> omega, bnew (bnew (Below.refl _ _) _) _⟩
                      · go_enter Try.func10, Try.ntmps10
                        go_wp2
                        go_ret
                        exact ⟨by rw [HR.out]; simp [inB, *] <;> omega, bnew (bnew (Below.refl _ _) _) _⟩
end Go.Proofs.Ytgfingdopelinaa
