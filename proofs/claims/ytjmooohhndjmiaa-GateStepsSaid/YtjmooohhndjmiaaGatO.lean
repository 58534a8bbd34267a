/- 'one' of the gate's laws. -/
import Derived.Test.YtjmooohhndjmiaaGatV
import Derived.Test.YtjmooohhndjmiaaGatW
namespace Go.Proofs.Ytjmooohhndjmiaa
open Go.RowKit Go.Deep
set_option linter.unusedVariables false

theorem gok13 : GOk 1 3 0 := ⟨by decide, by decide, by decide, by decide⟩
set_option maxHeartbeats 4000000 in
set_option maxRecDepth 100000 in
theorem gone_calls (w : World) :
    Calls Try.prog 16 #[] w fun e w' => e = .returned (.bool true) ∧ Below w.heap.size w w' := by
  obtain ⟨W, hW⟩ : ∃ W, W = w.alloc (.cells #[.int .i64 1, .int .i64 3, .int .i64 0] 25) := ⟨_, rfl⟩
  have hbox : Blk W w.heap.size 25 [.int .i64 1, .int .i64 3, .int .i64 0] := by rw [hW]; exact blk_new w _ _ _ rfl
  have hbe : Below w.heap.size w W := by rw [hW]; exact bnew (Below.refl _ _) _
  have HB := Lib.hid (And.intro hbox hbe)
  clear hbox hbe
  go_enter Try.func16, Try.ntmps16
  go_wp2_with fail
  rw [← hW]
  clear hW
  refine (new_calls 6 W (by decide) (by decide)).mono ?_; rintro e w1 ⟨b, bw, bb, rfl, hm, h1, h2, h3, hb⟩
  have hs := gsys_new (w0 := w) (A := 1) (M := 3) (C := 0) HB.out.2 (Nat.le_refl _) HB.out.1 hm h1 h2 h3 hb
  have H1 : Hid (GSys w w1 w.heap.size 1 3 0 b bw bb (List.replicate 6 0)) := Lib.hid hs
  have x0 : w1.cell? ⟨w.heap.size, 0, none⟩ = some (.int .i64 1) := hs.box.cell 0
  have x1 : w1.cell? ⟨w.heap.size, 1, none⟩ = some (.int .i64 3) := hs.box.cell 1
  have x2 : w1.cell? ⟨w.heap.size, 2, none⟩ = some (.int .i64 0) := hs.box.cell 2
  clear hs hm h1 h2 h3 hb HB
  go_wp2_with fail
  refine (g_setup H1.out gok13 (by decide) (by decide)).mono ?_; rintro e w2 ⟨rfl, hs⟩
  have H2 : Hid (GSys w w2 w.heap.size 1 3 0 b bw bb [0, 0, 0, 0, 0, 0]) := Lib.hid hs
  clear hs x0 x1 x2
  go_wp2_with fail
  refine (g_store 0 7 H2.out (by decide) (by decide)).mono ?_; rintro e w3 ⟨rfl, hs, _⟩
  have H3 : Hid (GSys w w3 w.heap.size 1 3 0 b bw bb [7, 0, 0, 0, 0, 0]) := Lib.hid hs
  clear hs
  have y0 : w3.cell? ⟨w.heap.size, 0, none⟩ = some (.int .i64 1) := H3.out.box.cell 0
  have y1 : w3.cell? ⟨w.heap.size, 1, none⟩ = some (.int .i64 3) := H3.out.box.cell 1
  have y2 : w3.cell? ⟨w.heap.size, 2, none⟩ = some (.int .i64 0) := H3.out.box.cell 2
  go_wp2_with fail
  refine (g_join 1 H3.out gok13 (by decide)).mono ?_; rintro e w4 ⟨bo, rfl, ho, hs, hap, _, _⟩
  have H4 : Hid (GSys w w4 w.heap.size 1 3 0 b bw bb [7, 0, 0, 0, 0, 0]) := Lib.hid hs
  have HA := Lib.hid (And.intro ho hap)
  clear hs ho hap y0 y1 y2
  go_wp2_with fail
  refine (g_run (ws' := [7, 2, 0, 7, 0, 0]) (o' := ⟨0, 1, 6, 0, 7, 0⟩) 6 H4.out HA.out.1 HA.out.2 gok13 (gin_new 3 0 1 0 (by decide) (by decide) (by decide)) (by decide) (by decide) (by decide) (by kernel_rfl) rfl).mono ?_; rintro e w5 ⟨he, hs, _⟩
  obtain rfl : e = .returned (.tuple #[.int .i64 0, .int .u64 7, .int .i64 6]) := he
  have H5 : Hid (GSys w w5 w.heap.size 1 3 0 b bw bb [7, 2, 0, 7, 0, 0]) := Lib.hid hs
  clear hs HA
  have y0 : w5.cell? ⟨w.heap.size, 0, none⟩ = some (.int .i64 1) := H5.out.box.cell 0
  have y1 : w5.cell? ⟨w.heap.size, 1, none⟩ = some (.int .i64 3) := H5.out.box.cell 1
  have y2 : w5.cell? ⟨w.heap.size, 2, none⟩ = some (.int .i64 0) := H5.out.box.cell 2
  go_wp2_with fail
  refine (g_least 9 H5.out gok13).mono ?_; rintro e w6 ⟨bo, rfl, ho, hs, hap, _, _⟩
  have H6 : Hid (GSys w w6 w.heap.size 1 3 0 b bw bb [7, 2, 0, 7, 0, 0]) := Lib.hid hs
  have HA := Lib.hid (And.intro ho hap)
  clear hs ho hap y0 y1 y2
  go_wp2_with fail
  refine (g_run (ws' := [7, 2, 0, 7, 0, 0]) (o' := ⟨2, 3, 6, 2, 7, 0⟩) 2 H6.out HA.out.1 HA.out.2 gok13 (gin_new 3 2 0 9 (by decide) (by decide) (by decide)) (by decide) (by decide) (by decide) (by kernel_rfl) rfl).mono ?_; rintro e w7 ⟨he, hs, _⟩
  obtain rfl : e = .returned (.tuple #[.int .i64 0, .int .u64 7, .int .i64 2]) := he
  have H7 : Hid (GSys w w7 w.heap.size 1 3 0 b bw bb [7, 2, 0, 7, 0, 0]) := Lib.hid hs
  clear hs HA
  have y0 : w7.cell? ⟨w.heap.size, 0, none⟩ = some (.int .i64 1) := H7.out.box.cell 0
  have y1 : w7.cell? ⟨w.heap.size, 1, none⟩ = some (.int .i64 3) := H7.out.box.cell 1
  have y2 : w7.cell? ⟨w.heap.size, 2, none⟩ = some (.int .i64 0) := H7.out.box.cell 2
  go_wp2_with fail
  refine (g_join 1 H7.out gok13 (by decide)).mono ?_; rintro e w8 ⟨bo, rfl, ho, hs, hap, _, _⟩
  have H8 : Hid (GSys w w8 w.heap.size 1 3 0 b bw bb [7, 2, 0, 7, 0, 0]) := Lib.hid hs
  have HA := Lib.hid (And.intro ho hap)
  clear hs ho hap y0 y1 y2
  go_wp2_with fail
  refine (g_run (ws' := [7, 2, 0, 7, 0, 0]) (o' := ⟨0, 1, 6, 0, 0, 14⟩) 1 H8.out HA.out.1 HA.out.2 gok13 (gin_new 3 0 1 0 (by decide) (by decide) (by decide)) (by decide) (by decide) (by decide) (by kernel_rfl) rfl).mono ?_; rintro e w9 ⟨he, hs, _⟩
  obtain rfl : e = .returned (.tuple #[.int .i64 14, .int .u64 0, .int .i64 1]) := he
  have H9 : Hid (GSys w w9 w.heap.size 1 3 0 b bw bb [7, 2, 0, 7, 0, 0]) := Lib.hid hs
  clear hs HA
  have y0 : w9.cell? ⟨w.heap.size, 0, none⟩ = some (.int .i64 1) := H9.out.box.cell 0
  have y1 : w9.cell? ⟨w.heap.size, 1, none⟩ = some (.int .i64 3) := H9.out.box.cell 1
  have y2 : w9.cell? ⟨w.heap.size, 2, none⟩ = some (.int .i64 0) := H9.out.box.cell 2
  go_wp2_with fail
  refine (g_leave 1 H9.out gok13 (by decide)).mono ?_; rintro e w10 ⟨bo, rfl, ho, hs, hap, _, _⟩
  have H10 : Hid (GSys w w10 w.heap.size 1 3 0 b bw bb [7, 2, 0, 7, 0, 0]) := Lib.hid hs
  have HA := Lib.hid (And.intro ho hap)
  clear hs ho hap y0 y1 y2
  go_wp2_with fail
  refine (g_run (ws' := [7, 0, 0, 7, 0, 0]) (o' := ⟨1, 1, 6, 2, 0, 0⟩) 2 H10.out HA.out.1 HA.out.2 gok13 (gin_new 3 1 1 0 (by decide) (by decide) (by decide)) (by decide) (by decide) (by decide) (by kernel_rfl) rfl).mono ?_; rintro e w11 ⟨he, hs, _⟩
  obtain rfl : e = .returned (.tuple #[.int .i64 0, .int .u64 0, .int .i64 2]) := he
  have H11 : Hid (GSys w w11 w.heap.size 1 3 0 b bw bb [7, 0, 0, 7, 0, 0]) := Lib.hid hs
  clear hs HA
  have y0 : w11.cell? ⟨w.heap.size, 0, none⟩ = some (.int .i64 1) := H11.out.box.cell 0
  have y1 : w11.cell? ⟨w.heap.size, 1, none⟩ = some (.int .i64 3) := H11.out.box.cell 1
  have y2 : w11.cell? ⟨w.heap.size, 2, none⟩ = some (.int .i64 0) := H11.out.box.cell 2
  go_wp2_with fail
  refine (g_least 9 H11.out gok13).mono ?_; rintro e w12 ⟨bo, rfl, ho, hs, hap, _, _⟩
  have H12 : Hid (GSys w w12 w.heap.size 1 3 0 b bw bb [7, 0, 0, 7, 0, 0]) := Lib.hid hs
  have HA := Lib.hid (And.intro ho hap)
  clear hs ho hap y0 y1 y2
  go_wp2_with fail
  refine (g_run (ws' := [7, 0, 0, 7, 0, 0]) (o' := ⟨2, 3, 6, 0, 9, 0⟩) 1 H12.out HA.out.1 HA.out.2 gok13 (gin_new 3 2 0 9 (by decide) (by decide) (by decide)) (by decide) (by decide) (by decide) (by kernel_rfl) rfl).mono ?_; rintro e w13 ⟨he, hs, _⟩
  obtain rfl : e = .returned (.tuple #[.int .i64 0, .int .u64 9, .int .i64 1]) := he
  have H13 : Hid (GSys w w13 w.heap.size 1 3 0 b bw bb [7, 0, 0, 7, 0, 0]) := Lib.hid hs
  clear hs HA
  have y0 : w13.cell? ⟨w.heap.size, 0, none⟩ = some (.int .i64 1) := H13.out.box.cell 0
  have y1 : w13.cell? ⟨w.heap.size, 1, none⟩ = some (.int .i64 3) := H13.out.box.cell 1
  have y2 : w13.cell? ⟨w.heap.size, 2, none⟩ = some (.int .i64 0) := H13.out.box.cell 2
  go_wp2_with fail
  refine (gwords_calls 1 3 0 _ gok13).mono ?_; rintro e wa ⟨he, hb⟩
  obtain rfl : e = .returned (.int .i64 4) := he
  have HZ := Lib.hid (H13.out.keep hb)
  have z0 := kcell hb y0
  have z1 := kcell hb y1
  have z2 := kcell hb y2
  clear hb y0 y1 y2
  go_wp2_with fail
  refine (gword_calls 1 3 0 2 _ gok13 (by decide)).mono ?_; rintro e wb ⟨he, hb⟩
  obtain rfl : e = .returned (.int .i64 4) := he
  have HE := Lib.hid (HZ.out.keep hb).below
  clear hb z0 z1 z2
  go_wp2
  go_ret
  exact ⟨rfl, HE.out⟩
end Go.Proofs.Ytjmooohhndjmiaa
