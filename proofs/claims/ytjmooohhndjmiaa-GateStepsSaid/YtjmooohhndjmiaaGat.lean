/- contracts of package gate: what there is of a gate, and what an operation tells. -/
import Derived.Test.YtjmooohhndjmiaaMemO
namespace Go.Proofs.Ytjmooohhndjmiaa
open Go.RowKit Go.Deep

/-- the cells of a gate's operation. -/
def gCells (A M C kind k pc w v code : Nat) : List Value :=
  [.bool true, .int .i64 A, .int .i64 M, .int .i64 C, .int .i64 kind, .int .i64 k, .int .i64 pc, .int .u64 w, .int .u64 v, .int .i64 code]
theorem g_cells {w : World} {bo : Nat} {A M C kind k pc wd v code : Nat} (h : Blk w bo 88 (gCells A M C kind k pc wd v code)) :
    w.cell? ⟨bo, 0, none⟩ = some (.bool true) ∧ w.cell? ⟨bo, 1, none⟩ = some (.int .i64 A) ∧ w.cell? ⟨bo, 2, none⟩ = some (.int .i64 M) ∧ w.cell? ⟨bo, 3, none⟩ = some (.int .i64 C) ∧ w.cell? ⟨bo, 4, none⟩ = some (.int .i64 kind) ∧ w.cell? ⟨bo, 5, none⟩ = some (.int .i64 k) ∧ w.cell? ⟨bo, 6, none⟩ = some (.int .i64 pc) ∧ w.cell? ⟨bo, 7, none⟩ = some (.int .u64 wd) ∧ w.cell? ⟨bo, 8, none⟩ = some (.int .u64 v) ∧ w.cell? ⟨bo, 9, none⟩ = some (.int .i64 code) :=
  ⟨h.cell 0, h.cell 1, h.cell 2, h.cell 3, h.cell 4, h.cell 5, h.cell 6, h.cell 7, h.cell 8, h.cell 9⟩
/-- a gate that may be. -/
structure GOk (A M C : Nat) : Prop where
  a : A ≤ 65536
  m1 : 1 ≤ M
  m8 : M ≤ 8
  c : C ≤ 65536

theorem there_calls (a : Nat) (w : World) (ha : a ≤ 65536) : Calls Try.prog 51 #[.int .i64 a] w fun e w' => e = .returned (.bool true) ∧ w = w' := by
  have h0 : decide ((0 : Int) ≤ (a : Int)) = true := by simp
  have h1 : decide ((a : Int) ≤ 65536) = true := by simp; omega
  go_enter Try.func51, Try.ntmps51
  go_wp2
  go_ret
  exact ⟨rfl, rfl⟩
theorem gright_calls (A M C : Nat) (w : World) (h : GOk A M C) : Calls Try.prog 26 #[.agg #[.int .i64 A, .int .i64 M, .int .i64 C]] w fun e w' => e = .returned (.bool true) ∧ w' = w.alloc (.cells #[.int .i64 A, .int .i64 M, .int .i64 C] 25) := by
  obtain ⟨h1, h2, h3, h4⟩ := h
  have HA := fun w => Lib.hid (there_calls A w h1)
  have HC := fun w => Lib.hid (there_calls C w h4)
  have t1 : decide ((1 : Int) ≤ (M : Int)) = true := by simp; omega
  have t2 : decide ((M : Int) ≤ 8) = true := by simp; omega
  clear h1 h2 h3 h4
  go_enter Try.func26, Try.ntmps26
  go_wp2_with fail
  refine (HA _).out.mono ?_; rintro e w' ⟨rfl, rfl⟩
  go_wp2_with fail
  refine (HC _).out.mono ?_; rintro e w' ⟨rfl, rfl⟩
  go_wp2
  go_ret
  exact ⟨rfl, rfl⟩
theorem gwords_calls (A M C : Nat) (w : World) (h : GOk A M C) : Calls Try.prog 27 #[.agg #[.int .i64 A, .int .i64 M, .int .i64 C]] w fun e w' => e = .returned (.int .i64 (1 + M : Nat)) ∧ Below w.heap.size w w' := by
  have HR := fun w => Lib.hid (gright_calls A M C w h)
  have h8 := h.m8
  clear h
  go_enter Try.func27, Try.ntmps27
  go_wp2_with fail
  refine (HR _).out.mono ?_; rintro e w' ⟨rfl, rfl⟩
  go_wp2
  go_ret
  exact ⟨by first | rfl | (congr 2; simp), bnew (bnew (Below.refl _ _) _) _⟩
theorem gmask_calls (A M C : Nat) (w : World) (h : GOk A M C) : Calls Try.prog 18 #[.agg #[.int .i64 A, .int .i64 M, .int .i64 C]] w fun e w' => e = .returned (.int .i64 A) ∧ Below w.heap.size w w' := by
  have HR := fun w => Lib.hid (gright_calls A M C w h)
  clear h
  go_enter Try.func18, Try.ntmps18
  go_wp2_with fail
  refine (HR _).out.mono ?_; rintro e w' ⟨rfl, rfl⟩
  go_wp2
  go_ret
  exact ⟨rfl, bnew (bnew (Below.refl _ _) _) _⟩
theorem gword_calls (A M C k : Nat) (w : World) (h : GOk A M C) (hk : k < M) : Calls Try.prog 42 #[.agg #[.int .i64 A, .int .i64 M, .int .i64 C], .int .i64 k] w fun e w' => e = .returned (.int .i64 (A + 1 + k : Nat)) ∧ Below w.heap.size w w' := by
  have HR := fun w => Lib.hid (gright_calls A M C w h)
  have h8 := h.m8
  have h1 := h.a
  have t0 : decide ((k : Int) < 0) = false := by simp
  have t1 : decide (M ≤ k) = false := by simp; omega
  clear h
  go_enter Try.func42, Try.ntmps42
  go_wp2_with fail
  refine (HR _).out.mono ?_; rintro e w' ⟨rfl, rfl⟩
  go_wp2
  go_ret
  exact ⟨by first | rfl | (congr 2; simp), bnew (bnew (Below.refl _ _) _) _⟩

theorem gnone_calls (bo A M C kind k pc wd v code : Nat) (w : World) (hb : Blk w bo 88 (gCells A M C kind k pc wd v code)) :
    Calls Try.prog 40 #[.pointer (some ⟨bo, 0, none⟩)] w fun e w' => e = .returned (.bool false) ∧ w = w' := by
  obtain ⟨h0, _⟩ := g_cells hb
  clear hb
  go_enter Try.func40, Try.ntmps40
  go_wp2
  go_ret
  exact ⟨rfl, rfl⟩
theorem gdone_calls (bo A M C kind k pc wd v code : Nat) (w : World) (hb : Blk w bo 88 (gCells A M C kind k pc wd v code)) :
    Calls Try.prog 36 #[.pointer (some ⟨bo, 0, none⟩)] w fun e w' => e = .returned (.bool (decide (pc = 6))) ∧ w = w' := by
  have hn := gnone_calls bo A M C kind k pc wd v code w hb
  obtain ⟨_, _, _, _, _, _, h6, _⟩ := g_cells hb
  have HN := Lib.hid hn
  clear hb hn
  go_enter Try.func36, Try.ntmps36
  go_wp2_with (first | (go_at_call 40; refine HN.out.mono ?_; rintro e w' ⟨rfl, rfl⟩))
  go_ret
  exact ⟨congrArg (fun z => Ending.returned (.bool z)) (show ((pc : Int) == 6) = decide (pc = 6) by rw [Bool.eq_iff_iff]; simp; omega), rfl⟩
theorem gat_calls (bo A M C kind k pc wd v code : Nat) (w : World) (hb : Blk w bo 88 (gCells A M C kind k pc wd v code)) :
    Calls Try.prog 13 #[.pointer (some ⟨bo, 0, none⟩)] w fun e w' => e = .returned (.int .i64 pc) ∧ w = w' := by
  have hn := gnone_calls bo A M C kind k pc wd v code w hb
  obtain ⟨_, _, _, _, _, _, h6, _⟩ := g_cells hb
  have HN := Lib.hid hn
  clear hb hn
  go_enter Try.func13, Try.ntmps13
  go_wp2_with (first | (go_at_call 40; refine HN.out.mono ?_; rintro e w' ⟨rfl, rfl⟩))
  go_ret
  exact ⟨rfl, rfl⟩
theorem gresult_calls (bo A M C kind k pc wd v code : Nat) (w : World) (hb : Blk w bo 88 (gCells A M C kind k pc wd v code)) :
    Calls Try.prog 15 #[.pointer (some ⟨bo, 0, none⟩)] w fun e w' => e = .returned (.tuple #[.int .i64 (if pc = 6 then code else 0 : Nat), .int .u64 (if pc = 6 then v else 0 : Nat)]) ∧ Below w.heap.size w w' := by
  have hn := gnone_calls bo A M C kind k pc wd v code w hb
  obtain ⟨_, _, _, _, _, _, h6, _, h8, h9⟩ := g_cells hb
  have HN := Lib.hid hn
  clear hb hn
  by_cases hpc : pc = 6
  · subst hpc
    rw [show ((6 : Nat) : Int) = 6 from rfl] at h6
    rw [if_pos rfl, if_pos rfl]
    go_enter Try.func15, Try.ntmps15
    go_wp2_with (first | (go_at_call 40; refine HN.out.mono ?_; rintro e w' ⟨rfl, rfl⟩))
    go_region
    go_wp2
    go_ret2
    exact ⟨rfl, (Below.refl _ _).drew⟩
  · rw [if_neg hpc, if_neg hpc]
    have hne : ((pc : Int) == 6) = false := by rw [beq_eq_false_iff_ne]; omega
    go_enter Try.func15, Try.ntmps15
    go_wp2_with (first | (go_at_call 40; refine HN.out.mono ?_; rintro e w' ⟨rfl, rfl⟩))
    go_ret2
    exact ⟨rfl, Below.refl _ _⟩
theorem gend_calls (bo A M C kind k pc wd v code code' v' : Nat) (w : World) (hb : Blk w bo 88 (gCells A M C kind k pc wd v code)) :
    Calls Try.prog 56 #[.pointer (some ⟨bo, 0, none⟩), .int .i64 code', .int .u64 v'] w fun e w' => e = .returned (.tuple #[]) ∧ Blk w' bo 88 (gCells A M C kind k 6 wd v' code') ∧ Chg (fun j => j = bo) w w' := by
  obtain ⟨_, _, _, _, _, _, h6, _, h8, h9⟩ := g_cells hb
  have z6 := hb.free 6
  have z8 := hb.free 8
  have z9 := hb.free 9
  have HF := Lib.hid (show Blk (((w.setCell ⟨bo, 6, none⟩ (.int .i64 6)).setCell ⟨bo, 9, none⟩ (.int .i64 code')).setCell ⟨bo, 8, none⟩ (.int .u64 v')) bo 88 (gCells A M C kind k 6 wd v' code') ∧ Chg (fun j => j = bo) w (((w.setCell ⟨bo, 6, none⟩ (.int .i64 6)).setCell ⟨bo, 9, none⟩ (.int .i64 code')).setCell ⟨bo, 8, none⟩ (.int .u64 v')) from
    ⟨((hb.set 6 (.int .i64 6)).set 9 (.int .i64 code')).set 8 (.int .u64 v'), (((Chg.refl (fun j => j = bo) w).setCell ⟨bo, 6, none⟩ _ (fun _ => rfl)).setCell ⟨bo, 9, none⟩ _ (fun _ => rfl)).setCell ⟨bo, 8, none⟩ _ (fun _ => rfl)⟩)
  clear hb
  go_enter Try.func56, Try.ntmps56
  go_wp2
  go_end0
  exact ⟨rfl, HF.out⟩
theorem gbit_calls (bo A M C kind k pc wd v code : Nat) (w : World) (hb : Blk w bo 88 (gCells A M C kind k pc wd v code)) (hk : k < 8) :
    Calls Try.prog 58 #[.pointer (some ⟨bo, 0, none⟩)] w fun e w' => e = .returned (.int .u64 (2 ^ k : Nat)) ∧ w = w' := by
  obtain ⟨_, _, _, _, _, h5, _⟩ := g_cells hb
  clear hb
  have hk' : k = 0 ∨ k = 1 ∨ k = 2 ∨ k = 3 ∨ k = 4 ∨ k = 5 ∨ k = 6 ∨ k = 7 := by omega
  rcases hk' with rfl | rfl | rfl | rfl | rfl | rfl | rfl | rfl
  all_goals
    go_enter Try.func58, Try.ntmps58
    go_wp2
    go_ret
    exact ⟨by rfl, rfl⟩
theorem and_bit (m k : Nat) : ((m &&& 2 ^ k : Nat) != 0) = m.testBit k := by
  rw [Nat.testBit_eq_decide_div_mod_eq, Bool.eq_iff_iff]
  simp only [bne_iff_ne, ne_eq, decide_eq_true_eq]
  constructor
  · intro h
    rcases Nat.mod_two_eq_zero_or_one (m / 2 ^ k) with h0 | h0
    · exfalso; apply h
      apply Nat.eq_of_testBit_eq
      intro i
      rw [Nat.testBit_and, Nat.testBit_two_pow, Nat.zero_testBit]
      by_cases hi : k = i
      · subst hi
        rw [Nat.testBit_eq_decide_div_mod_eq, h0]; rfl
      · simp [hi]
    · exact h0
  · intro h e
    have : (m &&& 2 ^ k).testBit k = true := by
      rw [Nat.testBit_and, Nat.testBit_two_pow_self, Nat.testBit_eq_decide_div_mod_eq, h]; rfl
    rw [e] at this
    simp at this
theorem gin_calls (bo A M C kind k pc wd v code mask : Nat) (w : World) (hb : Blk w bo 88 (gCells A M C kind k pc wd v code)) (hk : k < 8) (hm : mask < 18446744073709551616) :
    Calls Try.prog 55 #[.pointer (some ⟨bo, 0, none⟩), .int .u64 mask] w fun e w' => e = .returned (.bool (mask.testBit k)) ∧ w = w' := by
  have HB := Lib.hid (gbit_calls bo A M C kind k pc wd v code w hb hk)
  have h2 : 2 ^ k < 18446744073709551616 := Nat.pow_lt_pow_right (by decide) (show k < 64 by omega)
  have hand : bits .and .u64 (mask : Int) ((2 ^ k : Nat) : Int) = ((mask &&& 2 ^ k : Nat) : Int) := u64_and_nat _ _ hm h2
  have hfin : ((((mask &&& 2 ^ k : Nat) : Int)) != 0) = mask.testBit k := by
    rw [← and_bit, Bool.eq_iff_iff]
    simp only [bne_iff_ne, ne_eq]
    omega
  have HF := Lib.hid hfin
  obtain ⟨y, hy⟩ : ∃ y, mask &&& 2 ^ k = y := ⟨_, rfl⟩
  rw [hy] at hand HF
  obtain ⟨z, hz⟩ : ∃ z : Nat, 2 ^ k = z := ⟨_, rfl⟩
  rw [hz] at hand HB
  clear hb hk hm h2 hfin hy hz
  go_enter Try.func55, Try.ntmps55
  go_wp2_with (first | (go_at_call 58; refine HB.out.mono ?_; rintro e w' ⟨rfl, rfl⟩))
  go_ret
  exact ⟨congrArg (fun z => Ending.returned (.bool z)) HF.out, rfl⟩
end Go.Proofs.Ytjmooohhndjmiaa
