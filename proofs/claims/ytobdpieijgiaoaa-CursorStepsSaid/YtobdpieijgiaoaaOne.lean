/- 'one' of the cursor's laws. -/
import Derived.Test.YtobdpieijgiaoaaSys
namespace Go.Proofs.Ytobdpieijgiaoaa
open Go.RowKit Go.Deep

theorem pop4 : rightC 1 4 = true := by decide +kernel
theorem cell_new2 (W : World) (t : TypeId) (u : Value) : (W.alloc (.cells #[u] t)).cell? ⟨W.heap.size, 0, none⟩ = some u := (blk_new W t #[u] [u] rfl).cell 0

/-- a memory that was just made, beside a cursor's variable. -/
theorem sys_new {w0 w w1 : World} {c0 n : Nat} {A S : Int} {b bw bb : Nat} (hb0 : Below w0.heap.size w0 w) (hg : w0.heap.size ≤ c0) (hbox : Blk w c0 23 [.int .i64 A, .int .i64 S]) (hm : MemAt w1 b bw bb (List.replicate n 0)) (h1 : w.heap.size ≤ b) (h2 : w.heap.size ≤ bw) (h3 : w.heap.size ≤ bb) (hb : Below w.heap.size w w1) :
    Sys w0 w1 c0 A S b bw bb (List.replicate n 0) := by
  have := hb0.size
  have := hbox.lt
  exact ⟨bseq hb0 hb, hbox.chg (chg_of_below (fun _ => False) hb) (fun h => h), hm, hg, by omega, by omega, by omega, by omega, by omega, by omega⟩

set_option maxHeartbeats 2000000 in
theorem one_calls (w : World) :
    Calls Try.prog 16 #[] w fun e w' => e = .returned (.bool true) ∧ Below w.heap.size w w' := by
  obtain ⟨W, hW⟩ : ∃ W, W = w.alloc (.cells #[.int .i64 1, .int .i64 4] 23) := ⟨_, rfl⟩
  have hbox : Blk W w.heap.size 23 [.int .i64 1, .int .i64 4] := by rw [hW]; exact blk_new w _ _ _ rfl
  have hbe : Below w.heap.size w W := by rw [hW]; exact bnew (Below.refl _ _) _
  have HB := Lib.hid (And.intro hbox hbe)
  clear hbox hbe
  go_enter Try.func16, Try.ntmps16
  go_wp2_with fail
  rw [← hW]
  clear hW
  refine (new_calls 4 W (by decide) (by decide)).mono ?_; rintro e w1 ⟨b, bw, bb, rfl, hm, h1, h2, h3, hb⟩
  have hs := sys_new HB.out.2 (Nat.le_refl _) HB.out.1 hm h1 h2 h3 hb
  have H1 : Hid (Sys w w1 w.heap.size (1 : Nat) (4 : Nat) b bw bb [0, 0, 0, 0]) := Lib.hid hs
  have x0 : w1.cell? ⟨w.heap.size, 0, none⟩ = some (.int .i64 1) := hs.box.cell 0
  have x1 : w1.cell? ⟨w.heap.size, 1, none⟩ = some (.int .i64 4) := hs.box.cell 1
  clear hs hm h1 h2 h3 hb HB
  go_wp2_with fail
  refine (s_setup (x := 0) H1.out pop4 (by decide) (by decide)).mono ?_; rintro e w2 ⟨rfl, hs⟩
  have H2 : Hid (Sys w w2 w.heap.size (1 : Nat) (4 : Nat) b bw bb [0, 0, 0, 0]) := Lib.hid hs
  have y0 : w2.cell? ⟨w.heap.size, 0, none⟩ = some (.int .i64 1) := hs.box.cell 0
  have y1 : w2.cell? ⟨w.heap.size, 1, none⟩ = some (.int .i64 4) := hs.box.cell 1
  clear hs x0 x1
  go_wp2_with fail
  refine (s_claim (m := 3) (words := []) none 0 H2.out pop4 (by decide) (by decide) (fun h => absurd h (by decide))).mono ?_; rintro e w3 ⟨bo, bwd, rfl, ho, hs, hap, hge, _, _, _⟩
  have H3 : Hid (OpAt w3 bo bwd ⟨1, 4, 3, [], 0, 0, 0, 0, 0⟩ ∧ Sys w w3 w.heap.size (1 : Nat) (4 : Nat) b bw bb [0, 0, 0, 0]) := Lib.hid ⟨ho, hs⟩
  have HA := Lib.hid (And.intro hap hge)
  clear ho hs hap hge y0 y1
  go_wp2_with fail
  refine wp_loop_rounds 2 ?_
  rw [rounds_succ]
  go_wp2_with fail
  refine (s_step H3.out.2 H3.out.1 ⟨by decide, by decide, by decide, by decide, by decide, by decide, by decide, by decide, by decide⟩ HA.out.1 HA.out.2).mono ?_; rintro e w4 ⟨he, ho, hs, _⟩
  obtain rfl : e = .returned (.bool false) := he
  have H4 : Hid (OpAt w4 bo bwd ⟨1, 4, 3, [], 2, 0, 0, 0, 0⟩ ∧ Sys w w4 w.heap.size (1 : Nat) (4 : Nat) b bw bb [0, 0, 0, 0]) := Lib.hid ⟨ho, hs⟩
  clear ho hs
  go_wp2_with fail
  rw [rounds_succ]
  go_wp2_with fail
  refine (s_step H4.out.2 H4.out.1 ⟨by decide, by decide, by decide, by decide, by decide, by decide, by decide, by decide, by decide⟩ HA.out.1 HA.out.2).mono ?_; rintro e w5 ⟨he, ho, hs, _⟩
  obtain rfl : e = .returned (.bool true) := he
  have H5 : Hid (OpAt w5 bo bwd ⟨1, 4, 3, [], 3, 0, 0, 0, 0⟩ ∧ Sys w w5 w.heap.size (1 : Nat) (4 : Nat) b bw bb [0, 3, 0, 0]) := Lib.hid ⟨ho, hs⟩
  clear ho hs
  go_wp2_with fail
  refine (s_result H5.out.1).mono ?_; rintro e w6 ⟨he, hb⟩
  obtain rfl : e = .returned (.tuple #[.int .i64 0, .int .u64 0]) := he
  have hs := H5.out.2.keep hb
  have H6 : Hid (Sys w w6 w.heap.size (1 : Nat) (4 : Nat) b bw bb [0, 3, 0, 0]) := Lib.hid hs
  have y0 : w6.cell? ⟨w.heap.size, 0, none⟩ = some (.int .i64 1) := hs.box.cell 0
  have y1 : w6.cell? ⟨w.heap.size, 1, none⟩ = some (.int .i64 4) := hs.box.cell 1
  clear hs hb
  go_wp2_with fail
  have HS0 : Hid (0 < [2].length → ∃ ad, (some (⟨w6.heap.size, 0, none⟩ : Addr)) = some ad ∧ ∀ j v, (intVals ([2].map fun x : Nat => (x : Int)))[j]? = some v → (w6.alloc (.cells #[.int .i64 2] 3)).cell? (ad.add j) = some v) := Lib.hid (fun _ => ⟨_, rfl, fun j v hv => by
    have hbk := blk_new w6 3 #[.int .i64 2] [.int .i64 2] rfl
    rw [add_none, hbk.cell]
    simpa [intVals] using hv⟩)
  refine (s_claim (m := 2) (words := [2]) (some ⟨w6.heap.size, 0, none⟩) 1 (H6.out.alloc _) pop4 (by decide) (by decide) HS0.out).mono ?_; rintro e w7 ⟨bo, bwd, rfl, ho, hs, hap, hge, _, _, _⟩
  have H7 : Hid (OpAt w7 bo bwd ⟨1, 4, 2, [2], 0, 0, 0, 0, 0⟩ ∧ Sys w w7 w.heap.size (1 : Nat) (4 : Nat) b bw bb [0, 3, 0, 0]) := Lib.hid ⟨ho, hs⟩
  have HA2 := Lib.hid (And.intro hap hge)
  clear ho hs hap hge y0 y1
  go_wp2_with fail
  refine wp_loop_rounds 6 ?_
  rw [rounds_succ]
  go_wp2_with fail
  refine (s_step H7.out.2 H7.out.1 ⟨by decide, by decide, by decide, by decide, by decide, by decide, by decide, by decide, by decide⟩ HA2.out.1 HA2.out.2).mono ?_; rintro e w8 ⟨he, ho, hs, _⟩
  obtain rfl : e = .returned (.bool false) := he
  have H8 : Hid (OpAt w8 bo bwd ⟨1, 4, 2, [2], 1, 0, 3, 0, 0⟩ ∧ Sys w w8 w.heap.size (1 : Nat) (4 : Nat) b bw bb [0, 3, 0, 0]) := Lib.hid ⟨ho, hs⟩
  clear ho hs
  go_wp2_with fail
  rw [rounds_succ]
  go_wp2_with fail
  refine (s_step H8.out.2 H8.out.1 ⟨by decide, by decide, by decide, by decide, by decide, by decide, by decide, by decide, by decide⟩ HA2.out.1 HA2.out.2).mono ?_; rintro e w9 ⟨he, ho, hs, _⟩
  obtain rfl : e = .returned (.bool true) := he
  have H9 : Hid (OpAt w9 bo bwd ⟨1, 4, 2, [2], 3, 1, 0, 0, 15⟩ ∧ Sys w w9 w.heap.size (1 : Nat) (4 : Nat) b bw bb [0, 3, 0, 0]) := Lib.hid ⟨ho, hs⟩
  clear ho hs
  go_wp2_with fail
  rw [rounds_succ]
  go_wp2_with fail
  refine (s_step H9.out.2 H9.out.1 ⟨by decide, by decide, by decide, by decide, by decide, by decide, by decide, by decide, by decide⟩ HA2.out.1 HA2.out.2).mono ?_; rintro e w10 ⟨he, ho, hs, _⟩
  obtain rfl : e = .returned (.bool true) := he
  have H10 : Hid (OpAt w10 bo bwd ⟨1, 4, 2, [2], 3, 1, 0, 0, 15⟩ ∧ Sys w w10 w.heap.size (1 : Nat) (4 : Nat) b bw bb [0, 3, 0, 0]) := Lib.hid ⟨ho, hs⟩
  clear ho hs
  go_wp2_with fail
  rw [rounds_succ]
  go_wp2_with fail
  refine (s_step H10.out.2 H10.out.1 ⟨by decide, by decide, by decide, by decide, by decide, by decide, by decide, by decide, by decide⟩ HA2.out.1 HA2.out.2).mono ?_; rintro e w11 ⟨he, ho, hs, _⟩
  obtain rfl : e = .returned (.bool true) := he
  have H11 : Hid (OpAt w11 bo bwd ⟨1, 4, 2, [2], 3, 1, 0, 0, 15⟩ ∧ Sys w w11 w.heap.size (1 : Nat) (4 : Nat) b bw bb [0, 3, 0, 0]) := Lib.hid ⟨ho, hs⟩
  clear ho hs
  go_wp2_with fail
  rw [rounds_succ]
  go_wp2_with fail
  refine (s_step H11.out.2 H11.out.1 ⟨by decide, by decide, by decide, by decide, by decide, by decide, by decide, by decide, by decide⟩ HA2.out.1 HA2.out.2).mono ?_; rintro e w12 ⟨he, ho, hs, _⟩
  obtain rfl : e = .returned (.bool true) := he
  have H12 : Hid (OpAt w12 bo bwd ⟨1, 4, 2, [2], 3, 1, 0, 0, 15⟩ ∧ Sys w w12 w.heap.size (1 : Nat) (4 : Nat) b bw bb [0, 3, 0, 0]) := Lib.hid ⟨ho, hs⟩
  clear ho hs
  go_wp2_with fail
  rw [rounds_succ]
  go_wp2_with fail
  refine (s_result H12.out.1).mono ?_; rintro e w13 ⟨he, hb⟩
  obtain rfl : e = .returned (.tuple #[.int .i64 15, .int .u64 0]) := he
  have H13 : Hid (Sys w w13 w.heap.size (1 : Nat) (4 : Nat) b bw bb [0, 3, 0, 0]) := Lib.hid (H12.out.2.keep hb)
  clear hb
  go_wp2_with fail
  refine (s_load (x := 1) H13.out (by decide)).mono ?_; rintro e w14 ⟨he, hs⟩
  obtain rfl : e = .returned (.int .u64 3) := he
  have HE := Lib.hid hs.below
  clear hs
  go_wp2
  go_ret
  exact ⟨rfl, HE.out⟩
end Go.Proofs.Ytobdpieijgiaoaa
