/- CursorNobody: the kinds of case 12, 13. -/
import Derived.Test.YtobdpieijgiaoaaNobTools
namespace Go.Proofs.Ytobdpieijgiaoaa
open Go.RowKit Go.Deep

set_option maxHeartbeats 8000000 in
set_option maxRecDepth 100000 in
theorem nob_12 (A S M : Int) (x : Nat) (W : World) (t0 : decide (0 ≤ A) = true) (t1 : decide (A ≤ 65536) = true) (t2 : decide (1 ≤ S) = true) (t3 : decide (S ≤ 1024) = true) (tz : (bits .and .i64 S (wrap64 (S - 1)) == 0) = true) (u0 : decide (1 ≤ M) = true) (u1 : decide (M ≤ S) = true) (v0 : decide (A < 4) = true) (v1 : decide ((x : Int) < 4611686018427387904) = false)
    (HCL : Hid (∀ w g, w.cell? ⟨g, 0, none⟩ = some (.int .i64 0) → Calls Try.prog 9 #[.agg #[.int .i64 A, .int .i64 S], .int .i64 M, .slice (some ⟨g, 0, none⟩) 1 1] w fun e w' => Begun w w' A S M [.int .i64 0] 1 true e))
    (HSU : Hid (∀ w b bw bb, MemAt w b bw bb [0, 0, 0, 0] → Calls Try.prog 10 #[.agg #[.int .i64 A, .int .i64 S], .pointer (some ⟨b, 0, none⟩), .int .u64 x] w fun e w' => e = .returned (.int .i64 ((if false then 0 else 2 : Nat))) ∧ (∃ ws, MemAt w' b bw bb ws) ∧ Chg (fun j => j = b ∨ j = bw) w w'))
    (HTE : Hid (∀ w, Calls Try.prog 15 #[.agg #[.int .i64 A, .int .i64 S]] w fun e w' => Begun w w' A S 0 [] 0 true e))
    (HRI : Hid (∀ w, Calls Try.prog 14 #[.agg #[.int .i64 A, .int .i64 S]] w fun e w' => e = .returned (.bool true) ∧ Below w.heap.size w w')) :
    Calls Try.prog 3 #[.agg #[.int .i64 A, .int .i64 S], .int .i64 M, .int .u64 x] W fun e w' => e = .returned (.bool true) ∧ Below W.heap.size W w' := by
  have mk : ∀ W : World, (Instr.makeSlice 34 (.int .i64 65) (.int .i64 65)).run Try.prog W = .ok (.slice (some ⟨W.heap.size, 0, none⟩) 65 65) (W.alloc (.cells (madeCells #[.int .i64 0] 65) 3)) :=
    fun W => run_make_row' 34 3 (.int .i64 0) 8 Try.underlying34 info_int rfl .i64 .i64 65 (by omega) (by omega) W
  obtain ⟨W0, hW0⟩ : ∃ W0, W0 = W.alloc (.cells #[.int .i64 A, .int .i64 S] 23) := ⟨_, rfl⟩
  have hbox : Blk W0 W.heap.size 23 [.int .i64 A, .int .i64 S] := by rw [hW0]; exact blk_new W _ _ _ rfl
  have hbe : Below W.heap.size W W0 := by rw [hW0]; exact bnew (Below.refl _ _) _
  have HB := Lib.hid (And.intro hbox hbe)
  have HW0 := Lib.hid hW0
  clear hbox hbe hW0
  go_enter Try.func3, Try.ntmps3
  go_wp2_with fail
  rw [← HW0.out]
  refine (new_calls 4 W0 (by decide) (by decide)).mono ?_; rintro e w1 ⟨b, bw, bb, rfl, hm, h1, h2, h3, hb⟩
  have hs := sys_new HB.out.2 (Nat.le_refl _) HB.out.1 hm h1 h2 h3 hb
  have H1 : Hid (Sys W w1 W.heap.size A S b bw bb [0, 0, 0, 0]) := Lib.hid hs
  have x0 : w1.cell? ⟨W.heap.size, 0, none⟩ = some (.int .i64 A) := hs.box.cell 0
  have x1 : w1.cell? ⟨W.heap.size, 1, none⟩ = some (.int .i64 S) := hs.box.cell 1
  clear hs hm h1 h2 h3 hb HB
  go_wp2_with fail
  refine (result_nil w1).mono ?_; rintro e w' ⟨rfl, rfl⟩
  go_wp2_with fail
  refine (HCL.out (w1.alloc (.cells #[.int .i64 0] 3)) w1.heap.size (cell_new2 _ _ _)).mono ?_; rintro e w2 hbg
  obtain ⟨bo, bwd, rfl, ho, hge, hb⟩ := begun_ok hbg
  have hs2 := (H1.out.alloc (.cells #[.int .i64 0] 3)).keep hb
  have hlt := H1.out.lts
  have hob : bo ≠ b ∧ bo ≠ bw ∧ bo ≠ W.heap.size := by
    rw [World.size_alloc] at hge
    omega
  have H2 : Hid (Sys W w2 W.heap.size A S b bw bb [0, 0, 0, 0]) := Lib.hid hs2
  have HO := Lib.hid ho
  have HOB := Lib.hid hob
  clear hbg ho hge hb hs2 hlt hob x0 x1
  go_wp2_with fail
  refine (result_calls _ _ _ _ _ _ _ _ _ _ _ w2 HO.out).mono ?_; rintro e w3 ⟨he, hb⟩
  first
  | (obtain rfl : e = .returned (.tuple #[.int .i64 2, .int .u64 0]) := he)
  | (obtain rfl : e = .returned (.tuple #[.int .i64 0, .int .u64 0]) := he)
  have hs3 := H2.out.keep hb
  have HO3 := Lib.hid (HO.out.chg (chg_of_below (fun _ => False) hb) (fun h => h))
  have H3 : Hid (Sys W w3 W.heap.size A S b bw bb [0, 0, 0, 0]) := Lib.hid hs3
  have x0 : w3.cell? ⟨W.heap.size, 0, none⟩ = some (.int .i64 A) := hs3.box.cell 0
  have x1 : w3.cell? ⟨W.heap.size, 1, none⟩ = some (.int .i64 S) := hs3.box.cell 1
  clear hs3 hb HO
  go_wp2_with fail
  refine (HSU.out w3 b bw bb H3.out.mem).mono ?_; rintro e w4 ⟨he, ⟨ws, hm4⟩, hc4⟩
  first
  | (obtain rfl : e = .returned (.int .i64 2) := he)
  | (obtain rfl : e = .returned (.int .i64 0) := he)
  have hs4 : Sys W w4 W.heap.size A S b bw bb ws := H3.out.set hc4 (fun j hj => by
    have := H3.out.g1; have := H3.out.g2; have := H3.out.n1; have := H3.out.n2
    rcases hj with rfl | rfl
    · exact ⟨H3.out.g1, H3.out.n1.symm⟩
    · exact ⟨H3.out.g2, H3.out.n2.symm⟩) hm4
  have HO4 := Lib.hid (HO3.out.chg hc4 (fun h => h.elim HOB.out.1 HOB.out.2.1))
  have H4 := Lib.hid hs4
  have y0 : w4.cell? ⟨W.heap.size, 0, none⟩ = some (.int .i64 A) := hs4.box.cell 0
  have y1 : w4.cell? ⟨W.heap.size, 1, none⟩ = some (.int .i64 S) := hs4.box.cell 1
  clear hm4 hc4 hs4 x0 x1 HO3
  go_wp2_with fail
  refine (claim65 _ w4.heap.size (blk_new w4 _ _ _ (made_ints 65))).mono ?_; rintro e w5 ⟨b5, bwd5, rfl, ho5, _, hb⟩
  have hs5 := (H4.out.alloc (.cells (madeCells #[.int .i64 0] 65) 3)).keep hb
  have HO5 := Lib.hid (((HO4.out.alloc (.cells (madeCells #[.int .i64 0] 65) 3))).chg (chg_of_below (fun _ => False) hb) (fun h => h))
  have H5 := Lib.hid hs5
  have HP5 := Lib.hid ho5
  clear hs5 hb ho5 HO4 y0 y1
  try clear tz
  try clear t3
  try clear t2
  try clear t1
  try clear t0
  try clear u1
  try clear u0
  try clear v1
  try clear v0
  go_wp2_with fail
  refine (result_calls _ _ _ _ _ _ _ _ _ _ _ w5 HP5.out).mono ?_; rintro e w6 ⟨he, hb⟩
  obtain rfl : e = .returned (.tuple #[.int .i64 2, .int .u64 0]) := he
  have hs6 := H5.out.keep hb
  have HO6 := Lib.hid (HO5.out.chg (chg_of_below (fun _ => False) hb) (fun h => h))
  have H6 := Lib.hid hs6
  have x0 : w6.cell? ⟨W.heap.size, 0, none⟩ = some (.int .i64 A) := hs6.box.cell 0
  have x1 : w6.cell? ⟨W.heap.size, 1, none⟩ = some (.int .i64 S) := hs6.box.cell 1
  clear hs6 hb HO5
  go_wp2_with fail
  refine (done_nil w6).mono ?_; rintro e w' ⟨rfl, rfl⟩
  go_wp2_with fail
  refine (at_nil w6).mono ?_; rintro e w' ⟨rfl, rfl⟩
  go_wp2_with fail
  refine (step_nil b w6).mono ?_; rintro e w' ⟨rfl, rfl⟩
  go_wp2_with fail
  refine (HRI.out w6).mono ?_; rintro e w7 ⟨rfl, hb⟩
  have hs7 := H6.out.keep hb
  have HO7 := Lib.hid (HO6.out.chg (chg_of_below (fun _ => False) hb) (fun h => h))
  have H7 := Lib.hid hs7
  have y0 : w7.cell? ⟨W.heap.size, 0, none⟩ = some (.int .i64 A) := hs7.box.cell 0
  have y1 : w7.cell? ⟨W.heap.size, 1, none⟩ = some (.int .i64 S) := hs7.box.cell 1
  clear hs7 hb HO6 x0 x1
  go_wp2_with fail
  refine (done_calls _ _ _ _ _ _ _ _ _ _ _ w7 HO7.out).mono ?_; rintro e w' ⟨he, rfl⟩
  first
  | (obtain rfl : e = .returned (.bool true) := he)
  | (obtain rfl : e = .returned (.bool false) := he)
  go_wp2_with fail
  refine (HTE.out w7).mono ?_; rintro e w8 hbg
  obtain ⟨b8, bwd8, rfl, ho8, _, hb⟩ := begun_ok hbg
  have hs8 := H7.out.keep hb
  have H8 := Lib.hid hs8
  have HP8 := Lib.hid ho8
  have x0 : w8.cell? ⟨W.heap.size, 0, none⟩ = some (.int .i64 A) := hs8.box.cell 0
  have x1 : w8.cell? ⟨W.heap.size, 1, none⟩ = some (.int .i64 S) := hs8.box.cell 1
  clear hbg hs8 hb ho8 y0 y1
  go_wp2_with fail
  refine (done_calls _ _ _ _ _ _ _ _ _ _ _ w8 HP8.out).mono ?_; rintro e w' ⟨he, rfl⟩
  first
  | (obtain rfl : e = .returned (.bool true) := he)
  | (obtain rfl : e = .returned (.bool false) := he)
  go_wp2_with fail
  refine (setup_nil A S 0 w8).mono ?_; rintro e w9 ⟨rfl, hb⟩
  have H9 := Lib.hid (H8.out.below.trans (hb.mono H8.out.below.size))
  clear hb
  go_wp2_with fail
  refine (one_calls w9).mono ?_; rintro e w10 ⟨rfl, hb⟩
  have HE := Lib.hid (bseq H9.out hb)
  clear hb
  go_wp2
  go_ret
  exact ⟨rfl, HE.out⟩

set_option maxHeartbeats 8000000 in
set_option maxRecDepth 100000 in
theorem nob_13 (A S M : Int) (x : Nat) (W : World) (t0 : decide (0 ≤ A) = true) (t1 : decide (A ≤ 65536) = true) (t2 : decide (1 ≤ S) = true) (t3 : decide (S ≤ 1024) = true) (tz : (bits .and .i64 S (wrap64 (S - 1)) == 0) = true) (u0 : decide (1 ≤ M) = true) (u1 : decide (M ≤ S) = true) (v0 : decide (A < 4) = true) (v1 : decide ((x : Int) < 4611686018427387904) = true)
    (HCL : Hid (∀ w g, w.cell? ⟨g, 0, none⟩ = some (.int .i64 0) → Calls Try.prog 9 #[.agg #[.int .i64 A, .int .i64 S], .int .i64 M, .slice (some ⟨g, 0, none⟩) 1 1] w fun e w' => Begun w w' A S M [.int .i64 0] 1 true e))
    (HSU : Hid (∀ w b bw bb, MemAt w b bw bb [0, 0, 0, 0] → Calls Try.prog 10 #[.agg #[.int .i64 A, .int .i64 S], .pointer (some ⟨b, 0, none⟩), .int .u64 x] w fun e w' => e = .returned (.int .i64 ((if true then 0 else 2 : Nat))) ∧ (∃ ws, MemAt w' b bw bb ws) ∧ Chg (fun j => j = b ∨ j = bw) w w'))
    (HTE : Hid (∀ w, Calls Try.prog 15 #[.agg #[.int .i64 A, .int .i64 S]] w fun e w' => Begun w w' A S 0 [] 0 true e))
    (HRI : Hid (∀ w, Calls Try.prog 14 #[.agg #[.int .i64 A, .int .i64 S]] w fun e w' => e = .returned (.bool true) ∧ Below w.heap.size w w')) :
    Calls Try.prog 3 #[.agg #[.int .i64 A, .int .i64 S], .int .i64 M, .int .u64 x] W fun e w' => e = .returned (.bool true) ∧ Below W.heap.size W w' := by
  have mk : ∀ W : World, (Instr.makeSlice 34 (.int .i64 65) (.int .i64 65)).run Try.prog W = .ok (.slice (some ⟨W.heap.size, 0, none⟩) 65 65) (W.alloc (.cells (madeCells #[.int .i64 0] 65) 3)) :=
    fun W => run_make_row' 34 3 (.int .i64 0) 8 Try.underlying34 info_int rfl .i64 .i64 65 (by omega) (by omega) W
  obtain ⟨W0, hW0⟩ : ∃ W0, W0 = W.alloc (.cells #[.int .i64 A, .int .i64 S] 23) := ⟨_, rfl⟩
  have hbox : Blk W0 W.heap.size 23 [.int .i64 A, .int .i64 S] := by rw [hW0]; exact blk_new W _ _ _ rfl
  have hbe : Below W.heap.size W W0 := by rw [hW0]; exact bnew (Below.refl _ _) _
  have HB := Lib.hid (And.intro hbox hbe)
  have HW0 := Lib.hid hW0
  clear hbox hbe hW0
  go_enter Try.func3, Try.ntmps3
  go_wp2_with fail
  rw [← HW0.out]
  refine (new_calls 4 W0 (by decide) (by decide)).mono ?_; rintro e w1 ⟨b, bw, bb, rfl, hm, h1, h2, h3, hb⟩
  have hs := sys_new HB.out.2 (Nat.le_refl _) HB.out.1 hm h1 h2 h3 hb
  have H1 : Hid (Sys W w1 W.heap.size A S b bw bb [0, 0, 0, 0]) := Lib.hid hs
  have x0 : w1.cell? ⟨W.heap.size, 0, none⟩ = some (.int .i64 A) := hs.box.cell 0
  have x1 : w1.cell? ⟨W.heap.size, 1, none⟩ = some (.int .i64 S) := hs.box.cell 1
  clear hs hm h1 h2 h3 hb HB
  go_wp2_with fail
  refine (result_nil w1).mono ?_; rintro e w' ⟨rfl, rfl⟩
  go_wp2_with fail
  refine (HCL.out (w1.alloc (.cells #[.int .i64 0] 3)) w1.heap.size (cell_new2 _ _ _)).mono ?_; rintro e w2 hbg
  obtain ⟨bo, bwd, rfl, ho, hge, hb⟩ := begun_ok hbg
  have hs2 := (H1.out.alloc (.cells #[.int .i64 0] 3)).keep hb
  have hlt := H1.out.lts
  have hob : bo ≠ b ∧ bo ≠ bw ∧ bo ≠ W.heap.size := by
    rw [World.size_alloc] at hge
    omega
  have H2 : Hid (Sys W w2 W.heap.size A S b bw bb [0, 0, 0, 0]) := Lib.hid hs2
  have HO := Lib.hid ho
  have HOB := Lib.hid hob
  clear hbg ho hge hb hs2 hlt hob x0 x1
  go_wp2_with fail
  refine (result_calls _ _ _ _ _ _ _ _ _ _ _ w2 HO.out).mono ?_; rintro e w3 ⟨he, hb⟩
  first
  | (obtain rfl : e = .returned (.tuple #[.int .i64 2, .int .u64 0]) := he)
  | (obtain rfl : e = .returned (.tuple #[.int .i64 0, .int .u64 0]) := he)
  have hs3 := H2.out.keep hb
  have HO3 := Lib.hid (HO.out.chg (chg_of_below (fun _ => False) hb) (fun h => h))
  have H3 : Hid (Sys W w3 W.heap.size A S b bw bb [0, 0, 0, 0]) := Lib.hid hs3
  have x0 : w3.cell? ⟨W.heap.size, 0, none⟩ = some (.int .i64 A) := hs3.box.cell 0
  have x1 : w3.cell? ⟨W.heap.size, 1, none⟩ = some (.int .i64 S) := hs3.box.cell 1
  clear hs3 hb HO
  go_wp2_with fail
  refine (HSU.out w3 b bw bb H3.out.mem).mono ?_; rintro e w4 ⟨he, ⟨ws, hm4⟩, hc4⟩
  first
  | (obtain rfl : e = .returned (.int .i64 2) := he)
  | (obtain rfl : e = .returned (.int .i64 0) := he)
  have hs4 : Sys W w4 W.heap.size A S b bw bb ws := H3.out.set hc4 (fun j hj => by
    have := H3.out.g1; have := H3.out.g2; have := H3.out.n1; have := H3.out.n2
    rcases hj with rfl | rfl
    · exact ⟨H3.out.g1, H3.out.n1.symm⟩
    · exact ⟨H3.out.g2, H3.out.n2.symm⟩) hm4
  have HO4 := Lib.hid (HO3.out.chg hc4 (fun h => h.elim HOB.out.1 HOB.out.2.1))
  have H4 := Lib.hid hs4
  have y0 : w4.cell? ⟨W.heap.size, 0, none⟩ = some (.int .i64 A) := hs4.box.cell 0
  have y1 : w4.cell? ⟨W.heap.size, 1, none⟩ = some (.int .i64 S) := hs4.box.cell 1
  clear hm4 hc4 hs4 x0 x1 HO3
  go_wp2_with fail
  refine (claim65 _ w4.heap.size (blk_new w4 _ _ _ (made_ints 65))).mono ?_; rintro e w5 ⟨b5, bwd5, rfl, ho5, _, hb⟩
  have hs5 := (H4.out.alloc (.cells (madeCells #[.int .i64 0] 65) 3)).keep hb
  have HO5 := Lib.hid (((HO4.out.alloc (.cells (madeCells #[.int .i64 0] 65) 3))).chg (chg_of_below (fun _ => False) hb) (fun h => h))
  have H5 := Lib.hid hs5
  have HP5 := Lib.hid ho5
  clear hs5 hb ho5 HO4 y0 y1
  try clear tz
  try clear t3
  try clear t2
  try clear t1
  try clear t0
  try clear u1
  try clear u0
  try clear v1
  try clear v0
  go_wp2_with fail
  refine (result_calls _ _ _ _ _ _ _ _ _ _ _ w5 HP5.out).mono ?_; rintro e w6 ⟨he, hb⟩
  obtain rfl : e = .returned (.tuple #[.int .i64 2, .int .u64 0]) := he
  have hs6 := H5.out.keep hb
  have HO6 := Lib.hid (HO5.out.chg (chg_of_below (fun _ => False) hb) (fun h => h))
  have H6 := Lib.hid hs6
  have x0 : w6.cell? ⟨W.heap.size, 0, none⟩ = some (.int .i64 A) := hs6.box.cell 0
  have x1 : w6.cell? ⟨W.heap.size, 1, none⟩ = some (.int .i64 S) := hs6.box.cell 1
  clear hs6 hb HO5
  go_wp2_with fail
  refine (done_nil w6).mono ?_; rintro e w' ⟨rfl, rfl⟩
  go_wp2_with fail
  refine (at_nil w6).mono ?_; rintro e w' ⟨rfl, rfl⟩
  go_wp2_with fail
  refine (step_nil b w6).mono ?_; rintro e w' ⟨rfl, rfl⟩
  go_wp2_with fail
  refine (HRI.out w6).mono ?_; rintro e w7 ⟨rfl, hb⟩
  have hs7 := H6.out.keep hb
  have HO7 := Lib.hid (HO6.out.chg (chg_of_below (fun _ => False) hb) (fun h => h))
  have H7 := Lib.hid hs7
  have y0 : w7.cell? ⟨W.heap.size, 0, none⟩ = some (.int .i64 A) := hs7.box.cell 0
  have y1 : w7.cell? ⟨W.heap.size, 1, none⟩ = some (.int .i64 S) := hs7.box.cell 1
  clear hs7 hb HO6 x0 x1
  go_wp2_with fail
  refine (done_calls _ _ _ _ _ _ _ _ _ _ _ w7 HO7.out).mono ?_; rintro e w' ⟨he, rfl⟩
  first
  | (obtain rfl : e = .returned (.bool true) := he)
  | (obtain rfl : e = .returned (.bool false) := he)
  go_wp2_with fail
  refine (HTE.out w7).mono ?_; rintro e w8 hbg
  obtain ⟨b8, bwd8, rfl, ho8, _, hb⟩ := begun_ok hbg
  have hs8 := H7.out.keep hb
  have H8 := Lib.hid hs8
  have HP8 := Lib.hid ho8
  have x0 : w8.cell? ⟨W.heap.size, 0, none⟩ = some (.int .i64 A) := hs8.box.cell 0
  have x1 : w8.cell? ⟨W.heap.size, 1, none⟩ = some (.int .i64 S) := hs8.box.cell 1
  clear hbg hs8 hb ho8 y0 y1
  go_wp2_with fail
  refine (done_calls _ _ _ _ _ _ _ _ _ _ _ w8 HP8.out).mono ?_; rintro e w' ⟨he, rfl⟩
  first
  | (obtain rfl : e = .returned (.bool true) := he)
  | (obtain rfl : e = .returned (.bool false) := he)
  go_wp2_with fail
  refine (setup_nil A S 0 w8).mono ?_; rintro e w9 ⟨rfl, hb⟩
  have H9 := Lib.hid (H8.out.below.trans (hb.mono H8.out.below.size))
  clear hb
  go_wp2_with fail
  refine (one_calls w9).mono ?_; rintro e w10 ⟨rfl, hb⟩
  have HE := Lib.hid (bseq H9.out hb)
  clear hb
  go_wp2
  go_ret
  exact ⟨rfl, HE.out⟩
end Go.Proofs.Ytobdpieijgiaoaa
