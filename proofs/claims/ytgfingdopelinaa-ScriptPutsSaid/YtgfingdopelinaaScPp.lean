/- plain laws of ScriptPuts. -/
import Derived.Test.YtgfingdopelinaaScPt
import Derived.Test.YtgfingdopelinaaScBp
namespace Go.Proofs.Ytgfingdopelinaa
set_option linter.unusedSimpArgs false
set_option linter.unusedVariables false
open Go.RowKit Go.Deep

def putZ (zs : List Int) : List Nat := putL (zs.map u64N)
theorem putZ_succ (zs : List Int) {k : Nat} (hk : k < zs.length) : putZ (zs.take (k + 1)) = putZ (zs.take k) ++ putN (u64N (zs.getD k 0)) := by
  unfold putZ
  rw [List.take_succ_eq_append_getElem hk, List.map_append, putL_app]
  simp [putL_cons, putL_nil, List.getD, hk]
theorem putZ_bl (zs : List Int) : BL (10 * zs.length) (putZ zs) := by
  refine ⟨putL_lt _, ?_⟩
  unfold putZ
  refine Nat.le_trans (putL_len _ ?_) (by simp)
  intro v hv
  obtain ⟨z, _, rfl⟩ := List.mem_map.1 hv
  exact u64N_lt z
/-- the bytes of the right ones of entries. -/
def putR (es : List En) : List Nat := (es.filter En.rightB).flatMap (fun e => putE e.clean)
theorem putR_succ (es : List En) {k : Nat} (hk : k < es.length) : putR (es.take (k + 1)) = putR (es.take k) ++ (if (es.getD k enZero).rightB then putE (es.getD k enZero).clean else []) := by
  unfold putR
  rw [List.take_succ_eq_append_getElem hk, List.filter_append, List.flatMap_append]
  congr 1
  have e : es.getD k enZero = es[k] := by simp [List.getD, hk]
  rw [e]
  by_cases h : es[k].rightB = true
  · simp [h]
  · simp [h]
theorem all_succ (es : List En) {k : Nat} (hk : k < es.length) : (es.take (k + 1)).all En.rightB = ((es.take k).all En.rightB && (es.getD k enZero).rightB) := by
  rw [List.take_succ_eq_append_getElem hk, List.all_append]
  simp [List.getD, hk]
theorem putR_bl (es : List En) (h : ∀ e ∈ es, e.gen < 18446744073709551616 ∧ e.pos < 18446744073709551616) : BL (120 * es.length) (putR es) := by
  constructor
  · intro x hx
    unfold putR at hx
    obtain ⟨e, _, he⟩ := List.mem_flatMap.1 hx
    exact putE_lt _ x he
  · have h1 := flat_len (es.filter En.rightB) (fun e he => by
      obtain ⟨h1, h2⟩ := List.mem_filter.1 he
      exact EnOk.of h2 (h e h1).1 (h e h1).2)
    have h2 := List.length_filter_le En.rightB es
    unfold putR
    omega
def wantA (t words blocks sweep : Int) (zs : List Int) (m : Nat) : List Nat :=
  [] ++ putN (u64N t) ++ putN zs.length ++ putZ zs ++ putN (u64N words) ++ putN (u64N blocks) ++ putN (u64N sweep) ++ putN m
theorem want_put {t words blocks sweep : Int} {zs : List Int} {es : List En} (hc : confB t words blocks sweep zs = true) (hs : sweep < 9223372036854775808) (ha : es.all En.rightB = true) :
    wantA t words blocks sweep zs es.length ++ putR es = putS t words blocks sweep zs es := by
  obtain ⟨h1, h2, h3, h4, h5, h6⟩ := confB_bounds hc
  have hf : es.filter En.rightB = es := List.filter_eq_self.2 (by rw [List.all_eq_true] at ha; exact ha)
  have hu : ∀ z : Int, 0 ≤ z → z < 9223372036854775808 → u64N z = z.toNat := fun z h h' => by unfold u64N; omega
  have hz : zs.map u64N = zs.map Int.toNat := by
    apply List.map_congr_left
    intro z hz
    have := h6 z hz
    exact hu z (by omega) (by omega)
  unfold wantA putR putZ putS
  rw [hf, hz, hu t (by omega) (by omega), hu words (by omega) (by omega), hu blocks (by omega) (by omega), hu sweep (by omega) hs]
  simp [putL_cons, putL_nil]
end Go.Proofs.Ytgfingdopelinaa
