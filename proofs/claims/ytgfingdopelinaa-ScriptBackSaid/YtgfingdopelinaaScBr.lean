/- Read of too many bytes; make of them. -/
import Derived.Test.YtgfingdopelinaaScV
namespace Go.Proofs.Ytgfingdopelinaa
set_option linter.unusedSimpArgs false
set_option linter.unusedVariables false
open Go.RowKit Go.Deep

theorem read_big (A : Option Addr) (n cap : Nat) (w : World) (hn : 1048576 < n) (hc : n ≤ 9223372036854775807) :
    Calls Try.prog 16 #[.slice A n cap] w fun r w' => r = .returned (.tuple #[zscriptV, .int .i64 3]) ∧ Below w.heap.size w w' := by
  have t0 : decide ((1048576 : Int) < (n : Int)) = true := by simp; omega
  unfold zscriptV
  clear hn
  go_enter Try.func16, Try.ntmps16
  go_wp2_with fail
  go_step3
  go_wp2_with fail
  have hb := bnew (Below.refl w.heap.size w) (.cells #[.int .i64 0, .slice none 0 0, .int .i64 0, .int .i64 0, .int .i64 0, .slice none 0 0] 46)
  obtain ⟨y0, y1, y2, y3, y4, y5⟩ := script_cells (Blk.new w 46 [.int .i64 0, .slice none 0 0, .int .i64 0, .int .i64 0, .int .i64 0, .slice none 0 0])
  generalize w.alloc _ = w1 at *
  rw [Exit.noGoto_ret]
  refine bodyPost_ret (v := .tuple #[.agg #[.int .i64 0, .slice none 0 0, .int .i64 0, .int .i64 0, .int .i64 0, .slice none 0 0], .int .i64 3]) (by simp [results, Try.results16, go_sem, y0, y1, y2, y3, y4, y5]) rfl ⟨rfl, hb⟩
theorem make_run (w : World) : ∃ w', (Instr.makeSlice 41 (.int .i64 1048577) (.int .i64 1048577)).run Try.prog w = .ok (.slice (some ⟨w.heap.size, 0, none⟩) 1048577 1048577) w' ∧ Below w.heap.size w w' := by
  obtain ⟨i0, hi, hz⟩ := Option.map_eq_some_iff.1 info_u8
  simp only [Prod.mk.injEq] at hz
  obtain ⟨hz0, hz1, hz2⟩ := hz
  obtain ⟨w', h1, _, h2⟩ := run_make_full (P := Try.prog) w w.heap.size 41 5 i0 (.int .u8 0) 1 Try.underlying41 hi hz0 hz1 .i64 .i64 1048577 (by rw [hz2]; decide) (by decide) (Nat.le_refl _)
  exact ⟨w', h1, ⟨h2.os, h2.tape, h2.output, h2.size, fun k hk => h2.block k hk (by simp)⟩⟩
theorem IsAt.chg {S : Nat → Prop} {w w' : World} {A : Option Addr} {n cap : Nat} {zs : List Int} (h : IsAt w A n cap zs) (hc : Chg S w w') (hs : ∀ b off, A = some ⟨b, off, none⟩ → ¬ S b) : IsAt w' A n cap zs :=
  ⟨h.1, h.2.1, h.2.2.1, h.2.2.2.1, fun h0 => by
    obtain ⟨b, off, e, hcell⟩ := h.2.2.2.2 h0
    exact ⟨b, off, e, fun i hi => Chg.cell hc (hcell i hi) (hs _ _ e)⟩⟩
end Go.Proofs.Ytgfingdopelinaa
