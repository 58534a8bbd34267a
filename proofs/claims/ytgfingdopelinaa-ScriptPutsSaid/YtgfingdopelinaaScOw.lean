/- contract of the law's Own. -/
import Derived.Test.YtgfingdopelinaaScPt
namespace Go.Proofs.Ytgfingdopelinaa
set_option linter.unusedSimpArgs false
set_option linter.unusedVariables false
open Go.RowKit Go.Deep

def ownV (e : En) : Value := .agg #[.int .i64 e.thread, .bool e.pick, .int .u64 (u64N e.kind : Nat), .int .u64 (u64N e.topic : Nat), .int .u64 (u64N e.gk : Nat), .int .u64 e.gen, .int .u64 (u64N e.mode : Nat), .int .u64 e.pos, .string e.text]
set_option maxRecDepth 100000 in
set_option maxHeartbeats 4000000 in
theorem ownE_calls (e : En) (w : World) : Calls Try.prog 11 #[e.val] w fun r w' => r = .returned (ownV e) ∧ Below w.heap.size w w' := by
  obtain ⟨th, pk, kd, tp, gk, gn, md, tx, ps⟩ := e
  unfold En.val ownV
  dsimp only
  have hwr := wrap_u64
  go_enter Try.func11, Try.ntmps11
  go_wp2_with fail
  refine bodyPost_ret (v := .agg #[.int .i64 th, .bool pk, .int .u64 (u64N kd : Nat), .int .u64 (u64N tp : Nat), .int .u64 (u64N gk : Nat), .int .u64 gn, .int .u64 (u64N md : Nat), .int .u64 ps, .string tx]) (by simp [results, Try.results11, go_sem]) rfl ⟨rfl, ?_⟩
  exact bnew (bnew (bnew (Below.refl _ _) _) _) _
end Go.Proofs.Ytgfingdopelinaa
