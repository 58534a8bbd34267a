/- entries compared. -/
import Derived.Test.YtgfingdopelinaaScO
import Derived.Laws.StructEq
namespace Go.Proofs.Ytgfingdopelinaa
set_option linter.unusedSimpArgs false
set_option linter.unusedVariables false
open Go.RowKit Go.Deep

theorem eql_entry (e : En) (w : World) : (binOp .eql 34 e.val e.val).run Try.prog w = .ok (.bool true) w := by
  obtain ⟨th, pk, kd, tp, gk, gn, md, tx, ps⟩ := e
  unfold En.val
  dsimp only
  go_simp
theorem neq_entry (e : En) (w : World) : (binOp .neq 34 e.val e.val).run Try.prog w = .ok (.bool false) w := by
  obtain ⟨th, pk, kd, tp, gk, gn, md, tx, ps⟩ := e
  unfold En.val
  dsimp only
  go_simp
end Go.Proofs.Ytgfingdopelinaa
