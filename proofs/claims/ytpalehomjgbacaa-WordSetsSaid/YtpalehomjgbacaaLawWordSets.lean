/- WordSets: for every input the call returns true, and leaves its arguments as they were. No condition but the row's own. -/
import Derived.Test.YtpalehomjgbacaaRows
import Derived.Test.YtpalehomjgbacaaT
import Derived.WalkKit
import Derived.ProofKit
import Derived.OpenShut
import Derived.ShutString
import Derived.ChangeOld
import Derived.Below
import Derived.Laws.IdiomArrays
namespace Go.Proofs.Ytpalehomjgbacaa.wordSets
open Go.ChangeShapes Go.WideShapes Go.ChangeAt Go.RowKit
open Go.ChangeMaps (open_string shut_string)
set_option linter.unusedVariables false

theorem own : ownKnob Try.prog.godebug = none := by kernel_rfl
theorem laidOut : laidOutB Try.prog = true := by kernel_rfl
theorem okWide_arr3 {P : Program} {w : World} {r : Reach} {base : Nat} {t : TypeId} {v : Value} {n : Nat} {e : TypeId} (ht : P.underlying t = some (.array n e)) (h : Value.okWide P w r base t v) : ∃ cs, v = .agg cs ∧ cs.size = P.cellsOf t := by
  simp only [Value.okWide, ht] at h
  obtain ⟨cs, h1, h2, _⟩ := h
  exact ⟨cs, h1, h2⟩
theorem arr3_of (cs : Array Value) (h : cs.size = 3) : ∃ x y u, cs = #[x, y, u] := by
  obtain ⟨l⟩ := cs
  match l, h with
  | [x, y, u], _ => exact ⟨x, y, u, rfl⟩

set_option maxRecDepth 100000 in
theorem lifted (os : Os) (started : os.Started) (H : Type) (enc : TypeId × Value → H) :
    ReturnsInHanded {} Try.checked os 4 .any (Rows.wordSetsSpec.pre6 enc Try.prog Try.f4 Rows.wordSetsRow.domain false) (Rows.wordSetsSpec.post enc Try.prog Try.f4 false true false false) := by
  refine returnsInHanded_of_change (C := Try.checked) own started (by kernel_rfl) Try.func4
    (ChangeSpec.witness6 (enc := enc) (C := Try.checked) false ⟨#[], #[.agg #[.int .i64 0, .int .i64 0], .agg #[.int .i64 0, .int .i64 0], .agg #[.int .u64 0, .int .u64 0, .int .u64 0]], []⟩ 8 (by kernel_rfl) (by kernel_rfl) (by kernel_rfl) (by kernel_rfl)) ?_
  intro W base args ds gs before hval0 hW hcnd _
  have hval : ∀ (j : Nat) t v, Try.f4.params[j]? = some t → args[j]? = some v → Value.okWide Try.prog W .any base t v := hval0
  have hW' := hW
  obtain ⟨p, q, hA0, hV, rfl, hfz, hnd⟩ := hW
  have hA : DataW.TrodAll enc Try.prog W 0 (fun _ => true) true Try.f4.params.toList args.toList ds p := hA0
  rw [Try.params4] at hA hval
  obtain ⟨v0, vs0, d0, ds0, p0, q0, hargs, rfl, rfl, h0, r0⟩ := trodAll_cons hA
  obtain ⟨v1, vs1, d1, ds1, p1, q1, rfl, rfl, rfl, h1, r1⟩ := trodAll_cons r0
  obtain ⟨v2, vs2, d2, ds2, p2, q2, rfl, rfl, rfl, h2, r2⟩ := trodAll_cons r1
  obtain ⟨rfl, rfl, rfl⟩ := trodAll_nil r2
  obtain rfl : args = #[v0, v1, v2] := by cases args; simp_all
  obtain ⟨rfl, rfl⟩ := trodVars_none hV
  have k0 := h0
  have lt0 : ∀ x ∈ p0, x.block < W.heap.size := by obtain ⟨m, hm⟩ := k0; exact DataW.trod_lt m _ _ _ hm
  obtain ⟨c0_0, c0_1, y0_0, y0_1, n0, rfl, -, -, g0_0, g0_1⟩ := Go.Joins.open_agg2 Try.underlying23 (by kernel_rfl) (by kernel_rfl) (hval 0 23 v0 rfl rfl) h0
  obtain ⟨z0_0, e0_0, -, w0_0⟩ := DataW.trod_int Try.underlying3 g0_0
  simp at e0_0
  subst e0_0
  obtain ⟨z0_1, e0_1, -, w0_1⟩ := DataW.trod_int Try.underlying3 g0_1
  simp at e0_1
  subst e0_1
  have k1 := h1
  have lt1 : ∀ x ∈ p1, x.block < W.heap.size := by obtain ⟨m, hm⟩ := k1; exact DataW.trod_lt m _ _ _ hm
  obtain ⟨c1_0, c1_1, y1_0, y1_1, n1, rfl, -, -, g1_0, g1_1⟩ := Go.Joins.open_agg2 Try.underlying23 (by kernel_rfl) (by kernel_rfl) (hval 1 23 v1 rfl rfl) h1
  obtain ⟨z1_0, e1_0, -, w1_0⟩ := DataW.trod_int Try.underlying3 g1_0
  simp at e1_0
  subst e1_0
  obtain ⟨z1_1, e1_1, -, w1_1⟩ := DataW.trod_int Try.underlying3 g1_1
  simp at e1_1
  subst e1_1
  have k2 := h2
  have lt2 : ∀ x ∈ p2, x.block < W.heap.size := by obtain ⟨m, hm⟩ := k2; exact DataW.trod_lt m _ _ _ hm
  obtain ⟨cs2, rfl, hsz2⟩ := okWide_arr3 Try.underlying32 (hval 2 32 v2 rfl rfl)
  have hc2 : Try.prog.cellsOf 32 = 3 := by kernel_rfl
  obtain ⟨m2, f2⟩ := h2
  obtain ⟨x2, y2, u2, rfl⟩ := arr3_of cs2 (hsz2.trans hc2)
  obtain ⟨r20, r21, r22, n2, -, g20, g21, g22⟩ := trod_array3 Try.underlying32 (by kernel_rfl) f2
  obtain ⟨z2_0, e2_0, -, w2_0⟩ := DataW.trod_int Try.underlying24 g20
  simp at e2_0
  subst e2_0
  obtain ⟨z2_1, e2_1, -, w2_1⟩ := DataW.trod_int Try.underlying24 g21
  simp at e2_1
  subst e2_1
  obtain ⟨z2_2, e2_2, -, w2_2⟩ := DataW.trod_int Try.underlying24 g22
  simp at e2_2
  subst e2_2
  clear hA0 hval0
  refine (wordSets_walk z0_0 w0_0 z0_1 w0_1 z1_0 w1_0 z1_1 w1_1 [z2_0, z2_1, z2_2] ⟨w2_0, w2_1, w2_2, trivial⟩ W ).mono fun e W' ⟨he, bel⟩ => ?_
  subst he
  exact ⟨_, rfl, _, _, _, [], _, [], hW', trodAll_mk1 (shut_bool Try.underlying4 _), (trodAll_cons_mk (Below.trod laidOut (by kernel_rfl) (of_decide_eq_true (by kernel_rfl)) k0 bel lt0) (trodAll_cons_mk (Below.trod laidOut (by kernel_rfl) (of_decide_eq_true (by kernel_rfl)) k1 bel lt1) (trodAll_cons_mk (Below.trod laidOut (by kernel_rfl) (of_decide_eq_true (by kernel_rfl)) k2 bel lt2) trodAll_mk0))), rfl, bel.frame _, fun h => by cases h⟩

theorem over : Rows.wordSetsRow.holds Try.pinned (OpenSpec.ofChange Rows.wordSetsSpec) :=
  OpenClaim.holds_of_wide 4 Try.f4 rfl rfl rfl rfl rfl rfl rfl ⟨rfl, rfl, rfl, rfl, rfl⟩ rfl rfl rfl rfl rfl (by kernel_rfl) Try.func4 (by kernel_rfl)
    (of_decide_eq_true (by kernel_rfl)) (by unfold Func.isWrapper; first | (rw [if_pos (by decide +kernel)]; kernel_rfl) | (rw [if_neg (by decide +kernel)]; exact ⟨rfl, rfl⟩))
    (fun os started H enc _ => lifted os started H enc)

theorem proved : Rows.WordSetsSaid :=
  over
end Go.Proofs.Ytpalehomjgbacaa.wordSets
