/- GateSteps: for every input the call returns true, and leaves its arguments as they were. No condition but the row's own. -/
import Derived.Test.YtjmooohhndjmiaaRows
import Derived.Test.YtjmooohhndjmiaaGs
import Derived.WalkKit
import Derived.ProofKit
import Derived.OpenShut
import Derived.ShutString
import Derived.ChangeOld
import Derived.Below
namespace Go.Proofs.Ytjmooohhndjmiaa.gateSteps
open Go.ChangeShapes Go.WideShapes Go.ChangeAt Go.RowKit
open Go.ChangeMaps (open_string shut_string)
set_option linter.unusedVariables false

theorem own : ownKnob Try.prog.godebug = none := by kernel_rfl
theorem laidOut : laidOutB Try.prog = true := by kernel_rfl

set_option maxRecDepth 100000 in
theorem lifted (os : Os) (started : os.Started) (H : Type) (enc : TypeId × Value → H) :
    ReturnsInHanded {} Try.checked os 3 .any (Rows.gateStepsSpec.pre6 enc Try.prog Try.f3 Rows.gateStepsRow.domain false) (Rows.gateStepsSpec.post enc Try.prog Try.f3 false true false false) := by
  refine returnsInHanded_of_change (C := Try.checked) own started (by kernel_rfl) Try.func3
    (ChangeSpec.witness6 (enc := enc) (C := Try.checked) false ⟨#[], #[.int .i64 0, .slice none 0 0, .slice none 0 0], []⟩ 8 (by kernel_rfl) (by kernel_rfl) (by kernel_rfl) (by kernel_rfl)) ?_
  intro W base args ds gs before hval0 hW hcnd _
  have hval : ∀ (j : Nat) t v, Try.f3.params[j]? = some t → args[j]? = some v → Value.okWide Try.prog W .any base t v := hval0
  have hW' := hW
  obtain ⟨p, q, hA0, hV, rfl, hfz, hnd⟩ := hW
  have hA : DataW.TrodAll enc Try.prog W 0 (fun _ => true) true Try.f3.params.toList args.toList ds p := hA0
  rw [Try.params3] at hA hval
  obtain ⟨v0, vs0, d0, ds0, p0, q0, hargs, rfl, rfl, h0, r0⟩ := trodAll_cons hA
  obtain ⟨v1, vs1, d1, ds1, p1, q1, rfl, rfl, rfl, h1, r1⟩ := trodAll_cons r0
  obtain ⟨v2, vs2, d2, ds2, p2, q2, rfl, rfl, rfl, h2, r2⟩ := trodAll_cons r1
  obtain ⟨rfl, rfl, rfl⟩ := trodAll_nil r2
  obtain rfl : args = #[v0, v1, v2] := by cases args; simp_all
  obtain ⟨rfl, rfl⟩ := trodVars_none hV
  obtain ⟨a0, rfl, rfl, rfl, w0⟩ := open_int Try.underlying3 (hval 0 3 v0 rfl rfl) h0
  have k1 := h1
  have lt1 : ∀ x ∈ p1, x.block < W.heap.size := by obtain ⟨m, hm⟩ := k1; exact DataW.trod_lt m _ _ _ hm
  obtain ⟨a1, len1, cap1, rfl⟩ := okWide_slice Try.underlying22 (hval 1 22 v1 rfl rfl)
  obtain ⟨l1, w1⟩ : ∃ l, RowsAt W [.i64, .i64, .u64] a1 len1 cap1 l := by
    obtain ⟨fuel, hf⟩ := h1
    rcases open_slice_fields Try.underlying22 Try.underlying42 (by kernel_rfl) (by kernel_rfl) hf with ⟨hcs, _⟩ | ⟨x, l, c, m, D, Pl, hcs, _, hl, hm, hmm, _, hcell⟩
    · simp [Value.cells] at hcs
      obtain ⟨rfl, rfl, rfl⟩ := hcs
      exact ⟨[], rows_nil _ _⟩
    · simp [Value.cells] at hcs
      obtain ⟨rfl, rfl, rfl⟩ := hcs
      have hml : len1 ≤ m := by rw [hmm]; split <;> omega
      refine rows_of (by decide) hl (by simpa [maxLen] using hm) fun i hi => ?_
      obtain ⟨ys, n, _, _, _, hfl⟩ := hcell i (by omega)
      obtain ⟨v0, y0, hc0, _, ht0⟩ := hfl 0 _ rfl
      obtain ⟨z0, e0, -, u0⟩ := DataW.trod_int Try.underlying3 ht0
      simp at e0
      subst e0
      obtain ⟨v1, y1, hc1, _, ht1⟩ := hfl 1 _ rfl
      obtain ⟨z1, e1, -, u1⟩ := DataW.trod_int Try.underlying3 ht1
      simp at e1
      subst e1
      obtain ⟨v2, y2, hc2, _, ht2⟩ := hfl 2 _ rfl
      obtain ⟨z2, e2, -, u2⟩ := DataW.trod_int Try.underlying40 ht2
      simp at e2
      subst e2
      refine ⟨[z0, z1, z2], ⟨u0, u1, u2, trivial⟩, fun j v hv => ?_⟩
      match j with
      | 0 => simp [valsOf] at hv; subst hv; exact hc0
      | 1 => simp [valsOf] at hv; subst hv; exact hc1
      | 2 => simp [valsOf] at hv; subst hv; exact hc2
      | j + 3 => simp [valsOf] at hv
  have k2 := h2
  have lt2 : ∀ x ∈ p2, x.block < W.heap.size := by obtain ⟨m, hm⟩ := k2; exact DataW.trod_lt m _ _ _ hm
  obtain ⟨a2, len2, cap2, rfl⟩ := okWide_slice Try.underlying23 (hval 2 23 v2 rfl rfl)
  obtain ⟨l2, w2⟩ : ∃ l, RowsAt W [.i64] a2 len2 cap2 l := by
    obtain ⟨fuel, hf⟩ := h2
    rcases open_ints Try.underlying23 Try.underlying3 (by kernel_rfl) hf with ⟨hcs, _⟩ | ⟨x, l, c, zs, hcs, _, hl, hm, hz, _, hcell, hwz⟩
    · simp [Value.cells] at hcs
      obtain ⟨rfl, rfl, rfl⟩ := hcs
      exact ⟨[], rows_nil _ _⟩
    · simp [Value.cells] at hcs
      obtain ⟨rfl, rfl, rfl⟩ := hcs
      refine rows_of (by decide) hl (by simpa [maxLen] using hm) fun i hi => ?_
      have hlen : i < zs.length := by simp at hz; omega
      refine ⟨[zs.getD i 0], ⟨hwz _ (by simp [List.getD, hlen]), trivial⟩, fun j v hv => ?_⟩
      match j with
      | 0 => simp [valsOf] at hv; subst hv; have := hcell i hlen; simpa using this
      | j + 1 => simp [valsOf] at hv
  clear hA0 hval0
  refine (gateSteps_walk a0 w0 a1 len1 cap1 l1 a2 len2 cap2 l2 W w1 w2).mono fun e W' ⟨he, bel⟩ => ?_
  subst he
  exact ⟨_, rfl, _, _, _, [], _, [], hW', trodAll_mk1 (shut_bool Try.underlying4 _), (trodAll_cons_mk (shut_int Try.underlying3 w0) (trodAll_cons_mk (Below.trod laidOut (by kernel_rfl) (of_decide_eq_true (by kernel_rfl)) k1 bel lt1) (trodAll_cons_mk (Below.trod laidOut (by kernel_rfl) (of_decide_eq_true (by kernel_rfl)) k2 bel lt2) trodAll_mk0))), rfl, bel.frame _, fun h => by cases h⟩

theorem over : Rows.gateStepsRow.holds Try.pinned (OpenSpec.ofChange Rows.gateStepsSpec) :=
  OpenClaim.holds_of_wide 3 Try.f3 rfl rfl rfl rfl rfl rfl rfl ⟨rfl, rfl, rfl, rfl, rfl⟩ rfl rfl rfl rfl rfl (by kernel_rfl) Try.func3 (by kernel_rfl)
    (of_decide_eq_true (by kernel_rfl)) (by unfold Func.isWrapper; first | (rw [if_pos (by decide +kernel)]; kernel_rfl) | (rw [if_neg (by decide +kernel)]; exact ⟨rfl, rfl⟩))
    (fun os started H enc _ => lifted os started H enc)

theorem proved : Rows.GateStepsSaid :=
  over
end Go.Proofs.Ytjmooohhndjmiaa.gateSteps
