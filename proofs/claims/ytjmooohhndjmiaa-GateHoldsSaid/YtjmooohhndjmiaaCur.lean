/- contracts of package cursor: making an operation, and what it tells. -/
import Derived.Test.YtjmooohhndjmiaaMemC
import Derived.Test.YtjmooohhndjmiaaPop
import Derived.Laws.CopyOwn
namespace Go.Proofs.Ytjmooohhndjmiaa
open Go.RowKit Go.Deep
set_option maxRecDepth 100000

/-- the cells of an operation. -/
def opCells (A S M : Int) (bwd n pc k p g code : Nat) : List Value :=
  [.bool true, .int .i64 A, .int .i64 S, .int .i64 M, .slice (some ⟨bwd, 0, none⟩) n n, .int .i64 pc, .int .i64 k, .int .u64 p, .int .u64 g, .int .i64 code]
def intVals (l : List Int) : List Value := l.map fun z => Value.int .i64 z
theorem op_cells {w : World} {bo : Nat} {A S M : Int} {bwd n pc k p g code : Nat} (h : Blk w bo 104 (opCells A S M bwd n pc k p g code)) :
    w.cell? ⟨bo, 0, none⟩ = some (.bool true) ∧ w.cell? ⟨bo, 1, none⟩ = some (.int .i64 A) ∧ w.cell? ⟨bo, 2, none⟩ = some (.int .i64 S) ∧ w.cell? ⟨bo, 3, none⟩ = some (.int .i64 M) ∧ w.cell? ⟨bo, 4, none⟩ = some (.slice (some ⟨bwd, 0, none⟩) n n) ∧ w.cell? ⟨bo, 5, none⟩ = some (.int .i64 pc) ∧ w.cell? ⟨bo, 6, none⟩ = some (.int .i64 k) ∧ w.cell? ⟨bo, 7, none⟩ = some (.int .u64 p) ∧ w.cell? ⟨bo, 8, none⟩ = some (.int .u64 g) ∧ w.cell? ⟨bo, 9, none⟩ = some (.int .i64 code) :=
  ⟨h.cell 0, h.cell 1, h.cell 2, h.cell 3, h.cell 4, h.cell 5, h.cell 6, h.cell 7, h.cell 8, h.cell 9⟩

def rightC (A S : Int) : Bool := decide (0 ≤ A ∧ A ≤ 65536 ∧ 1 ≤ S ∧ S ≤ 1024) && decide (pop S.toNat = 1)
theorem right_calls (A S : Int) (w : World) :
    Calls Try.prog 66 #[.agg #[.int .i64 A, .int .i64 S]] w fun e w' => e = .returned (.bool (rightC A S)) ∧ w' = w.alloc (.cells #[.int .i64 A, .int .i64 S] 95) := by
  unfold rightC
  by_cases h1 : 0 ≤ A
  · by_cases h2 : A ≤ 65536
    · by_cases h3 : 1 ≤ S
      · by_cases h4 : S ≤ 1024
        · obtain ⟨s, rfl⟩ : ∃ s : Nat, S = s := ⟨S.toNat, by omega⟩
          have hwr : IntKind.u64.wrap (s : Int) = (s : Int) := wrap_small s (by omega)
          have hp := fun w => Lib.hid (power_calls s w (by omega))
          have e1 : decide ((1 : Int) ≤ (s : Int)) = true := by simp; omega
          have e2 : decide ((s : Int) ≤ 1024) = true := by simp; omega
          have hF : (decide (0 ≤ A ∧ A ≤ 65536 ∧ 1 ≤ (s : Int) ∧ (s : Int) ≤ 1024) && decide (pop (s : Int).toNat = 1)) = decide (pop s = 1) := by
            simp [h1, h2, h3, h4]
          rw [hF]
          clear h3 h4 hF
          go_enter Try.func66, Try.ntmps66
          go_wp2_with (first | (go_at_call 68; (try rw [hwr]); refine (hp _).out.mono ?_; rintro e w' ⟨rfl, rfl⟩))
          go_ret
          exact ⟨rfl, rfl⟩
        · go_enter Try.func66, Try.ntmps66
          go_wp2
          go_ret
          exact ⟨by simp; omega, rfl⟩
      · go_enter Try.func66, Try.ntmps66
        go_wp2
        go_ret
        exact ⟨by simp; omega, rfl⟩
    · go_enter Try.func66, Try.ntmps66
      go_wp2
      go_ret
      exact ⟨by simp; omega, rfl⟩
  · go_enter Try.func66, Try.ntmps66
    go_wp2
    go_ret
    exact ⟨by simp; omega, rfl⟩

theorem onone_calls (bo : Nat) (A S M : Int) (bwd n pc k p g code : Nat) (w : World) (hb : Blk w bo 104 (opCells A S M bwd n pc k p g code)) :
    Calls Try.prog 61 #[.pointer (some ⟨bo, 0, none⟩)] w fun e w' => e = .returned (.bool false) ∧ w = w' := by
  obtain ⟨h0, _⟩ := op_cells hb
  clear hb
  go_enter Try.func61, Try.ntmps61
  go_wp2
  go_ret
  exact ⟨rfl, rfl⟩
theorem onone_nil (w : World) : Calls Try.prog 61 #[.pointer none] w fun e w' => e = .returned (.bool true) ∧ w = w' := by
  go_enter Try.func61, Try.ntmps61
  go_wp2
  go_ret
  exact ⟨rfl, rfl⟩
theorem done_calls (bo : Nat) (A S M : Int) (bwd n pc k p g code : Nat) (w : World) (hb : Blk w bo 104 (opCells A S M bwd n pc k p g code)) :
    Calls Try.prog 48 #[.pointer (some ⟨bo, 0, none⟩)] w fun e w' => e = .returned (.bool (decide (pc = 3))) ∧ w = w' := by
  have hn := onone_calls bo A S M bwd n pc k p g code w hb
  obtain ⟨h0, _, _, _, _, h5, _⟩ := op_cells hb
  have HN := Lib.hid hn
  clear hb hn
  go_enter Try.func48, Try.ntmps48
  go_wp2_with (first | (go_at_call 61; refine HN.out.mono ?_; rintro e w' ⟨rfl, rfl⟩))
  go_ret
  exact ⟨congrArg (fun z => Ending.returned (.bool z)) (show ((pc : Int) == 3) = decide (pc = 3) by rw [Bool.eq_iff_iff]; simp; omega), rfl⟩
theorem done_nil (w : World) : Calls Try.prog 48 #[.pointer none] w fun e w' => e = .returned (.bool true) ∧ w = w' := by
  go_enter Try.func48, Try.ntmps48
  go_wp2_with (first | (go_at_call 61; refine (onone_nil _).mono ?_; rintro e w' ⟨rfl, rfl⟩))
  go_ret
  exact ⟨rfl, rfl⟩
theorem result_calls (bo : Nat) (A S M : Int) (bwd n pc k p g code : Nat) (w : World) (hb : Blk w bo 104 (opCells A S M bwd n pc k p g code)) :
    Calls Try.prog 50 #[.pointer (some ⟨bo, 0, none⟩)] w fun e w' => e = .returned (.tuple #[.int .i64 (if pc = 3 then code else 0 : Nat), .int .u64 (if pc = 3 then p else 0 : Nat)]) ∧ Below w.heap.size w w' := by
  have hn := onone_calls bo A S M bwd n pc k p g code w hb
  obtain ⟨h0, _, _, _, _, h5, _, h7, _, h9⟩ := op_cells hb
  have HN := Lib.hid hn
  clear hb hn
  by_cases hpc : pc = 3
  · subst hpc
    rw [show ((3 : Nat) : Int) = 3 from rfl] at h5
    rw [if_pos rfl, if_pos rfl]
    go_enter Try.func50, Try.ntmps50
    go_wp2_with (first | (go_at_call 61; refine HN.out.mono ?_; rintro e w' ⟨rfl, rfl⟩))
    go_region
    go_wp2
    go_ret2
    exact ⟨rfl, (Below.refl _ _).drew⟩
  · rw [if_neg hpc, if_neg hpc]
    have hne : ((pc : Int) == 3) = false := by rw [beq_eq_false_iff_ne]; omega
    go_enter Try.func50, Try.ntmps50
    go_wp2_with (first | (go_at_call 61; refine HN.out.mono ?_; rintro e w' ⟨rfl, rfl⟩))
    go_ret2
    exact ⟨rfl, Below.refl _ _⟩
theorem result_nil (w : World) : Calls Try.prog 50 #[.pointer none] w fun e w' => e = .returned (.tuple #[.int .i64 1, .int .u64 0]) ∧ w = w' := by
  go_enter Try.func50, Try.ntmps50
  go_wp2_with (first | (go_at_call 61; refine (onone_nil _).mono ?_; rintro e w' ⟨rfl, rfl⟩))
  go_ret2
  exact ⟨rfl, rfl⟩
theorem end_calls (bo : Nat) (A S M : Int) (bwd n pc k p g code code' p' : Nat) (w : World) (hb : Blk w bo 104 (opCells A S M bwd n pc k p g code)) :
    Calls Try.prog 60 #[.pointer (some ⟨bo, 0, none⟩), .int .i64 code', .int .u64 p'] w fun e w' => e = .returned (.tuple #[]) ∧ Blk w' bo 104 (opCells A S M bwd n 3 k p' g code') ∧ Chg (fun j => j = bo) w w' := by
  obtain ⟨h0, _, _, _, _, h5, _, h7, _, h9⟩ := op_cells hb
  have z5 := hb.free 5
  have z7 := hb.free 7
  have z9 := hb.free 9
  have HF := Lib.hid (show Blk (((w.setCell ⟨bo, 5, none⟩ (.int .i64 3)).setCell ⟨bo, 9, none⟩ (.int .i64 code')).setCell ⟨bo, 7, none⟩ (.int .u64 p')) bo 104 (opCells A S M bwd n 3 k p' g code') ∧ Chg (fun j => j = bo) w (((w.setCell ⟨bo, 5, none⟩ (.int .i64 3)).setCell ⟨bo, 9, none⟩ (.int .i64 code')).setCell ⟨bo, 7, none⟩ (.int .u64 p')) from
    ⟨((hb.set 5 (.int .i64 3)).set 9 (.int .i64 code')).set 7 (.int .u64 p'), (((Chg.refl (fun j => j = bo) w).setCell ⟨bo, 5, none⟩ _ (fun _ => rfl)).setCell ⟨bo, 9, none⟩ _ (fun _ => rfl)).setCell ⟨bo, 7, none⟩ _ (fun _ => rfl)⟩)
  clear hb
  go_enter Try.func60, Try.ntmps60
  go_wp2
  go_end0
  exact ⟨rfl, HF.out⟩
end Go.Proofs.Ytjmooohhndjmiaa
