/- contracts of Entry.Right, lay. -/
import Derived.Test.YtgfingdopelinaaScG
namespace Go.Proofs.Ytgfingdopelinaa
set_option linter.unusedSimpArgs false
set_option linter.unusedVariables false
open Go.RowKit Go.Deep

theorem field_call (v0 v1 v2 v3 v4 v5 v6 v7 v8 : Value) (w : World) : (Instr.field 34 (.agg #[v0, v1, v2, v3, v4, v5, v6, v7, v8]) 2).run Try.prog w = .ok (.agg #[v2, v3, v4, v5, v6, v7, v8]) w := by kernel_rfl
/-- whether an entry may be laid. -/
def En.rightB (e : En) : Bool := inB e.thread 0 63 && (e.pick || callB e.clean.kind e.clean.topic e.clean.gk e.clean.mode e.clean.text.size)
set_option maxHeartbeats 2000000 in
theorem eright_calls (e : En) (w : World) : Calls Try.prog 9 #[e.val] w fun r w' => r = .returned (.bool e.rightB) ∧ Below w.heap.size w w' := by
  have HCL := fun W => Lib.hid (clean_calls e W)
  have HRB : Hid (e.rightB = (inB e.thread 0 63 && (e.pick || callB e.clean.kind e.clean.topic e.clean.gk e.clean.mode e.clean.text.size))) := Lib.hid rfl
  generalize e.rightB = R at *
  generalize e.clean = f at *
  obtain ⟨th, pk, kd, tp, gk, gn, md, tx, ps⟩ := e
  obtain ⟨th2, pk2, kd2, tp2, gk2, gn2, md2, tx2, ps2⟩ := f
  unfold En.val at *
  dsimp only at *
  have hfc := field_call
  have HRC := fun W => Lib.hid (right_calls kd2 tp2 gk2 gn2 md2 tx2 ps2 W)
  obtain ⟨C, hC⟩ : ∃ C, callB kd2 tp2 gk2 md2 tx2.size = C := ⟨_, rfl⟩
  rw [hC] at HRB
  simp only [hC] at HRC
  clear hC
  cases h1 : inB th 0 63
  case false =>
    go_enter Try.func9, Try.ntmps9
    go_wp2_with (first | (go_at_call 24; refine (within_calls _ _ _ _).mono ?_; rintro e w' ⟨rfl, rfl⟩))
    go_ret
    exact ⟨by rw [HRB.out, h1]; rfl, bnew (Below.refl _ _) _⟩
  case true =>
    cases h2 : pk
    case true =>
      subst h2
      go_enter Try.func9, Try.ntmps9
      go_wp2_with (first | (go_at_call 24; refine (within_calls _ _ _ _).mono ?_; rintro e w' ⟨rfl, rfl⟩))
      go_ret
      exact ⟨by rw [HRB.out, h1]; rfl, bnew (Below.refl _ _) _⟩
    case false =>
      subst h2
      go_enter Try.func9, Try.ntmps9
      go_wp2_with (first | (go_at_call 24; refine (within_calls _ _ _ _).mono ?_; rintro e w' ⟨rfl, rfl⟩))
      refine (HCL _).out.mono ?_; rintro e w1 ⟨rfl, hb1⟩
      have HB1 := Lib.hid (bseq (bnew (Below.refl _ _) _) hb1)
      clear hb1
      go_wp2_with fail
      refine (HRC _).out.mono ?_; rintro e w2 ⟨rfl, hb2⟩
      have HB2 := Lib.hid (bseq HB1.out hb2)
      clear hb2
      go_wp2
      go_ret
      exact ⟨by rw [HRB.out, h1]; rfl, HB2.out⟩
end Go.Proofs.Ytgfingdopelinaa
