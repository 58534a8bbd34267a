/- the reference's gate (sluicewayref19): Use. (Printed by genrgu.py.) -/
import Derived.Test.YtjmooohhndjmiaaRgB
import Derived.StillTailTactics
namespace Go.Proofs.Ytjmooohhndjmiaa
open Go.RowKit Go.Deep
set_option linter.unusedVariables false
set_option linter.unusedSimpArgs false

set_option maxHeartbeats 4000000 in
set_option maxRecDepth 100000 in
theorem ruse00 (k w0 v0 c0 : Nat) (w : World) (hk : k < 8) :
    Calls Try.prog 32 #[.agg #[.int .i64 0, .int .i64 1, .int .i64 0, .int .i64 k, .int .i64 0, .int .u64 w0, .int .u64 v0, .int .i64 c0]] w fun e w' => e = .returned (.agg #[.int .i64 0, .int .i64 1, .int .u64 0, .int .u64 0, .int .u64 0, .int .u64 0]) ∧ Below w.heap.size w w' := by
  have k8 : (k : Int) < 8 := by omega
  go_enter Try.func32, Try.ntmps32
  clear hk
  go_wp2
  refine bodyPost_ret (v := .agg #[.int .i64 0, .int .i64 1, .int .u64 0, .int .u64 0, .int .u64 0, .int .u64 0]) (by simp [results, Try.results32, go_sem]) rfl ⟨rfl, ?_⟩
  first | exact bnew (bnew (Below.refl _ _) _) _ | exact (bnew (bnew (Below.refl _ _) _) _).drew
set_option maxHeartbeats 4000000 in
set_option maxRecDepth 100000 in
theorem ruse01 (k w0 v0 c0 : Nat) (w : World) (hk : k < 8) :
    Calls Try.prog 32 #[.agg #[.int .i64 0, .int .i64 1, .int .i64 0, .int .i64 k, .int .i64 1, .int .u64 w0, .int .u64 v0, .int .i64 c0]] w fun e w' => e = .returned (.agg #[.int .i64 0, .int .i64 0, .int .u64 0, .int .u64 0, .int .u64 0, .int .u64 0]) ∧ Below w.heap.size w w' := by
  have k8 : (k : Int) < 8 := by omega
  go_enter Try.func32, Try.ntmps32
  clear hk
  go_wp2
  refine bodyPost_ret (v := .agg #[.int .i64 0, .int .i64 0, .int .u64 0, .int .u64 0, .int .u64 0, .int .u64 0]) (by simp [results, Try.results32, go_sem]) rfl ⟨rfl, ?_⟩
  first | exact bnew (bnew (Below.refl _ _) _) _ | exact (bnew (bnew (Below.refl _ _) _) _).drew
set_option maxHeartbeats 4000000 in
set_option maxRecDepth 100000 in
theorem ruse04 (k w0 v0 c0 : Nat) (w : World) (hk : k < 8) :
    Calls Try.prog 32 #[.agg #[.int .i64 0, .int .i64 1, .int .i64 0, .int .i64 k, .int .i64 4, .int .u64 w0, .int .u64 v0, .int .i64 c0]] w fun e w' => e = .returned (.agg #[.int .i64 0, .int .i64 0, .int .u64 0, .int .u64 0, .int .u64 0, .int .u64 0]) ∧ Below w.heap.size w w' := by
  have k8 : (k : Int) < 8 := by omega
  go_enter Try.func32, Try.ntmps32
  clear hk
  go_wp2
  refine bodyPost_ret (v := .agg #[.int .i64 0, .int .i64 0, .int .u64 0, .int .u64 0, .int .u64 0, .int .u64 0]) (by simp [results, Try.results32, go_sem]) rfl ⟨rfl, ?_⟩
  first | exact bnew (bnew (Below.refl _ _) _) _ | exact (bnew (bnew (Below.refl _ _) _) _).drew
set_option maxHeartbeats 4000000 in
set_option maxRecDepth 100000 in
theorem ruse02 (k w0 v0 c0 : Nat) (w : World) (hk : k < 8) :
    Calls Try.prog 32 #[.agg #[.int .i64 0, .int .i64 1, .int .i64 0, .int .i64 k, .int .i64 2, .int .u64 w0, .int .u64 v0, .int .i64 c0]] w fun e w' => e = .returned (.agg #[.int .i64 1, .int .i64 (2 + (k : Int)), .int .u64 v0, .int .u64 0, .int .u64 0, .int .u64 0]) ∧ Below w.heap.size w w' := by
  have k8 : (k : Int) < 8 := by omega
  go_enter Try.func32, Try.ntmps32
  clear hk
  go_wp2
  refine bodyPost_ret (v := .agg #[.int .i64 1, .int .i64 (2 + (k : Int)), .int .u64 v0, .int .u64 0, .int .u64 0, .int .u64 0]) (by simp [results, Try.results32, go_sem]) rfl ⟨rfl, ?_⟩
  first | exact bnew (bnew (Below.refl _ _) _) _ | exact (bnew (bnew (Below.refl _ _) _) _).drew
set_option maxHeartbeats 4000000 in
set_option maxRecDepth 100000 in
theorem ruse05 (k w0 v0 c0 : Nat) (w : World) (hk : k < 8) :
    Calls Try.prog 32 #[.agg #[.int .i64 0, .int .i64 1, .int .i64 0, .int .i64 k, .int .i64 5, .int .u64 w0, .int .u64 v0, .int .i64 c0]] w fun e w' => e = .returned (.agg #[.int .i64 1, .int .i64 (2 + (k : Int)), .int .u64 v0, .int .u64 0, .int .u64 0, .int .u64 0]) ∧ Below w.heap.size w w' := by
  have k8 : (k : Int) < 8 := by omega
  go_enter Try.func32, Try.ntmps32
  clear hk
  go_wp2
  refine bodyPost_ret (v := .agg #[.int .i64 1, .int .i64 (2 + (k : Int)), .int .u64 v0, .int .u64 0, .int .u64 0, .int .u64 0]) (by simp [results, Try.results32, go_sem]) rfl ⟨rfl, ?_⟩
  first | exact bnew (bnew (Below.refl _ _) _) _ | exact (bnew (bnew (Below.refl _ _) _) _).drew
set_option maxHeartbeats 4000000 in
set_option maxRecDepth 100000 in
theorem ruse03 (k w0 v0 c0 : Nat) (w : World) (hk : k < 8) :
    Calls Try.prog 32 #[.agg #[.int .i64 0, .int .i64 1, .int .i64 0, .int .i64 k, .int .i64 3, .int .u64 w0, .int .u64 v0, .int .i64 c0]] w fun e w' => e = .returned (.agg #[.int .i64 4, .int .i64 1, .int .u64 (2 ^ k : Nat), .int .u64 0, .int .u64 0, .int .u64 0]) ∧ Below w.heap.size w w' := by
  have k8 : (k : Int) < 8 := by omega
  obtain ⟨W1, hW1⟩ : ∃ W1, W1 = (w.alloc (.cells #[.int .i64 0, .int .i64 1, .int .i64 0, .int .i64 k, .int .i64 3, .int .u64 w0, .int .u64 v0, .int .i64 c0] 44)).alloc (.cells #[.int .i64 0, .int .i64 0, .int .u64 0, .int .u64 0, .int .u64 0, .int .u64 0] 81) := ⟨_, rfl⟩
  obtain ⟨p, hp⟩ : ∃ p : Nat, 2 ^ k = p := ⟨_, rfl⟩
  have HB := Lib.hid (rbit_calls k W1.drew hk)
  rw [hp] at HB
  clear hk
  go_enter Try.func32, Try.ntmps32
  go_wp2_with fail
  rw [← hW1]
  have hb1 : Blk W1 w.heap.size 44 [.int .i64 0, .int .i64 1, .int .i64 0, .int .i64 k, .int .i64 3, .int .u64 w0, .int .u64 v0, .int .i64 c0] := by rw [hW1]; exact (blk_new w 44 _ _ rfl).alloc _
  have f1 : W1.cell? ⟨w.heap.size, 1, none⟩ = some (.int .i64 1) := hb1.cell 1
  have f3 : W1.cell? ⟨w.heap.size, 3, none⟩ = some (.int .i64 k) := hb1.cell 3
  have f5 : W1.cell? ⟨w.heap.size, 5, none⟩ = some (.int .u64 w0) := hb1.cell 5
  have hb2 : Blk W1 (w.heap.size + 1) 81 [.int .i64 0, .int .i64 0, .int .u64 0, .int .u64 0, .int .u64 0, .int .u64 0] := by
    have b := blk_new (w.alloc (.cells #[.int .i64 0, .int .i64 1, .int .i64 0, .int .i64 k, .int .i64 3, .int .u64 w0, .int .u64 v0, .int .i64 c0] 44)) 81 #[.int .i64 0, .int .i64 0, .int .u64 0, .int .u64 0, .int .u64 0, .int .u64 0] _ rfl
    simp only [World.size_alloc] at b
    rw [hW1]; exact b
  have hbel : Below w.heap.size w W1 := by rw [hW1]; exact bnew (bnew (Below.refl _ _) _) _
  have HX := Lib.hid (And.intro hb2 (And.intro hbel hb1))
  clear hb1 hb2 hbel hW1
  refine wp_region_held_drew (S := (fun w' => w'.cell? ⟨w.heap.size, 1, none⟩ = some (.int .i64 1) ∧ w'.cell? ⟨w.heap.size, 3, none⟩ = some (.int .i64 k) ∧ w'.cell? ⟨w.heap.size, 5, none⟩ = some (.int .u64 w0))) (by kernel_rfl) (⟨f1, f3, f5⟩) (fun hH0 => ?_)
  refine take_first 0 (some 37) ?_ rfl rfl (by kernel_rfl) (by kernel_rfl) (by kernel_rfl) (fun _ _ _ h => h) rfl ?hy hH0 ?_
  case hy => (intro w0 hS0; (try dsimp only at hS0); (try go_simp); try with_reducible rfl)
  try simp only [Act.put, List.setIfInBounds_toArray, List.set_cons_zero, List.set_cons_succ]
  refine take_first 1 (some 38) ?_ rfl rfl (by kernel_rfl) (by kernel_rfl) (by kernel_rfl) (fun _ _ _ h => h) rfl ?hy hH0 ?_
  case hy => (intro w0 hS0; (try dsimp only at hS0); (try go_simp); try with_reducible rfl)
  try simp only [Act.put, List.setIfInBounds_toArray, List.set_cons_zero, List.set_cons_succ]
  refine take_first 2 (some 39) ?_ rfl rfl (by kernel_rfl) (by kernel_rfl) (by kernel_rfl) (fun _ _ _ h => h) rfl ?hy hH0 ?_
  case hy => (intro w0 hS0; (try dsimp only at hS0); (try go_simp); try with_reducible rfl)
  try simp only [Act.put, List.setIfInBounds_toArray, List.set_cons_zero, List.set_cons_succ]
  refine take_first 3 (some 40) ?_ rfl rfl (by kernel_rfl) (by kernel_rfl) (by kernel_rfl) (fun _ _ _ h => h) rfl ?hy hH0 ?_
  case hy => (intro w0 hS0; (try dsimp only at hS0); (try go_simp); try with_reducible rfl)
  try simp only [Act.put, List.setIfInBounds_toArray, List.set_cons_zero, List.set_cons_succ]
  refine wpAnyH_ready (rs := [4]) (by kernel_rfl) (by simp) (AllReadyH.cons rfl (fun K hK => ?_) AllReadyH.nil)
  go_simp
  refine HB.out.mono ?_; rintro e w2 ⟨rfl, rfl⟩
  refine hK.out _ _ (hH0) (fun hH1 => ?_)
  clear hK
  try simp only [Act.put, List.setIfInBounds_toArray, List.set_cons_zero, List.set_cons_succ]
  refine take_first 5 (some 42) ?_ rfl rfl (by kernel_rfl) (by kernel_rfl) (by kernel_rfl) (fun _ _ _ h => h) rfl ?hy hH1 ?_
  case hy => (intro w0 hS0; (try dsimp only at hS0); (try go_simp); try with_reducible rfl)
  try simp only [Act.put, List.setIfInBounds_toArray, List.set_cons_zero, List.set_cons_succ]
  refine take_first 6 (some 43) ?_ rfl rfl (by kernel_rfl) (by kernel_rfl) (by kernel_rfl) (fun _ _ _ h => h) rfl ?hy hH1 ?_
  case hy => (intro w0 hS0; (try dsimp only at hS0); (try go_simp); try with_reducible rfl)
  try simp only [Act.put, List.setIfInBounds_toArray, List.set_cons_zero, List.set_cons_succ]
  refine wpAnyH_ready (rs := [7]) (by kernel_rfl) (by simp) (AllReadyH.cons rfl (fun K hK => ?_) AllReadyH.nil)
  have hb3 := HX.out.1.drew
  have hb4 := HX.out.2.1.drew
  have hb5 := HX.out.2.2.drew
  clear f1 f3 f5 hH0 hH1
  generalize W1.drew = w3 at hb3 hb4 hb5 hK ⊢
  have HZ := Lib.hid (And.intro hb4 hb5)
  have y0 : w3.cell? ⟨w.heap.size + 1, 0, none⟩ = some (.int .i64 0) := hb3.cell 0
  have y1 : w3.cell? ⟨w.heap.size + 1, 1, none⟩ = some (.int .i64 0) := hb3.cell 1
  have y2 : w3.cell? ⟨w.heap.size + 1, 2, none⟩ = some (.int .u64 0) := hb3.cell 2
  have y3 : w3.cell? ⟨w.heap.size + 1, 3, none⟩ = some (.int .u64 0) := hb3.cell 3
  have y4 : w3.cell? ⟨w.heap.size + 1, 4, none⟩ = some (.int .u64 0) := hb3.cell 4
  have y5 : w3.cell? ⟨w.heap.size + 1, 5, none⟩ = some (.int .u64 0) := hb3.cell 5
  have z0 := hb3.free 0
  have z1 := hb3.free 1
  have z2 := hb3.free 2
  have z3 := hb3.free 3
  have z4 := hb3.free 4
  have z5 := hb3.free 5
  clear hb3 hb4 hb5
  go_simp
  have hq := ((((((HZ.out.2.other ⟨w.heap.size + 1, 0, none⟩ (.int .i64 4) (show w.heap.size ≠ w.heap.size + 1 by omega)).other ⟨w.heap.size + 1, 1, none⟩ (.int .i64 1) (show w.heap.size ≠ w.heap.size + 1 by omega)).other ⟨w.heap.size + 1, 2, none⟩ (.int .u64 (p : Nat)) (show w.heap.size ≠ w.heap.size + 1 by omega)).other ⟨w.heap.size + 1, 3, none⟩ (.int .u64 0) (show w.heap.size ≠ w.heap.size + 1 by omega)).other ⟨w.heap.size + 1, 4, none⟩ (.int .u64 0) (show w.heap.size ≠ w.heap.size + 1 by omega)).other ⟨w.heap.size + 1, 5, none⟩ (.int .u64 0) (show w.heap.size ≠ w.heap.size + 1 by omega))
  refine hK.out _ _ (⟨hq.cell 1, hq.cell 3, hq.cell 5⟩) (fun hH2 => ?_)
  clear hK
  try simp only [Act.put, List.setIfInBounds_toArray, List.set_cons_zero, List.set_cons_succ]
  refine wpAnyH_done (by kernel_rfl) ?_ _
  clear hq hH2
  go_wp2
  refine bodyPost_ret (v := .agg #[.int .i64 4, .int .i64 1, .int .u64 (p : Nat), .int .u64 0, .int .u64 0, .int .u64 0]) (by simp [results, Try.results32, go_sem, y0, y1, y2, y3, y4, y5, z0, z1, z2, z3, z4, z5]) rfl ⟨by rw [hp], ?_⟩
  have step : ∀ (w4 : World) (i : Nat) (u : Value), Below w.heap.size w w4 → Below w.heap.size w (w4.setCell ⟨w.heap.size + 1, i, none⟩ u) := fun w4 i u h => Chg.below h ((Chg.refl (fun j => j = w.heap.size + 1) w4).setCell _ _ (fun _ => rfl)) h.size (fun k hk => by omega)
  exact step _ _ _ (step _ _ _ (step _ _ _ (step _ _ _ (step _ _ _ (step _ _ _ HZ.out.1)))))
set_option maxHeartbeats 4000000 in
set_option maxRecDepth 100000 in
theorem ruse10 (k w0 v0 c0 : Nat) (w : World) (hk : k < 8) :
    Calls Try.prog 32 #[.agg #[.int .i64 1, .int .i64 1, .int .i64 0, .int .i64 k, .int .i64 0, .int .u64 w0, .int .u64 v0, .int .i64 c0]] w fun e w' => e = .returned (.agg #[.int .i64 0, .int .i64 1, .int .u64 0, .int .u64 0, .int .u64 0, .int .u64 0]) ∧ Below w.heap.size w w' := by
  have k8 : (k : Int) < 8 := by omega
  go_enter Try.func32, Try.ntmps32
  clear hk
  go_wp2
  refine bodyPost_ret (v := .agg #[.int .i64 0, .int .i64 1, .int .u64 0, .int .u64 0, .int .u64 0, .int .u64 0]) (by simp [results, Try.results32, go_sem]) rfl ⟨rfl, ?_⟩
  first | exact bnew (bnew (Below.refl _ _) _) _ | exact (bnew (bnew (Below.refl _ _) _) _).drew
set_option maxHeartbeats 4000000 in
set_option maxRecDepth 100000 in
theorem ruse11 (k w0 v0 c0 : Nat) (w : World) (hk : k < 8) (hw : w0 < 18446744073709551616) (hle : 2 ^ k ≤ w0) :
    Calls Try.prog 32 #[.agg #[.int .i64 1, .int .i64 1, .int .i64 0, .int .i64 k, .int .i64 1, .int .u64 w0, .int .u64 v0, .int .i64 c0]] w fun e w' => e = .returned (.agg #[.int .i64 2, .int .i64 1, .int .u64 w0, .int .u64 (w0 - 2 ^ k : Nat), .int .u64 0, .int .u64 0]) ∧ Below w.heap.size w w' := by
  have k8 : (k : Int) < 8 := by omega
  obtain ⟨W1, hW1⟩ : ∃ W1, W1 = (w.alloc (.cells #[.int .i64 1, .int .i64 1, .int .i64 0, .int .i64 k, .int .i64 1, .int .u64 w0, .int .u64 v0, .int .i64 c0] 44)).alloc (.cells #[.int .i64 0, .int .i64 0, .int .u64 0, .int .u64 0, .int .u64 0, .int .u64 0] 81) := ⟨_, rfl⟩
  obtain ⟨p, hp⟩ : ∃ p : Nat, 2 ^ k = p := ⟨_, rfl⟩
  have HB := Lib.hid (rbit_calls k W1.drew hk)
  rw [hp] at HB
  have hsub : IntKind.u64.wrap ((w0 : Int) - (p : Int)) = ((w0 - p : Nat) : Int) := by rw [IntKind.wrap_u64]; omega
  obtain ⟨d, hd⟩ : ∃ d, w0 - p = d := ⟨_, rfl⟩
  rw [hd] at hsub
  clear hw hle
  clear hk
  go_enter Try.func32, Try.ntmps32
  go_wp2_with fail
  rw [← hW1]
  have hb1 : Blk W1 w.heap.size 44 [.int .i64 1, .int .i64 1, .int .i64 0, .int .i64 k, .int .i64 1, .int .u64 w0, .int .u64 v0, .int .i64 c0] := by rw [hW1]; exact (blk_new w 44 _ _ rfl).alloc _
  have f1 : W1.cell? ⟨w.heap.size, 1, none⟩ = some (.int .i64 1) := hb1.cell 1
  have f3 : W1.cell? ⟨w.heap.size, 3, none⟩ = some (.int .i64 k) := hb1.cell 3
  have f5 : W1.cell? ⟨w.heap.size, 5, none⟩ = some (.int .u64 w0) := hb1.cell 5
  have hb2 : Blk W1 (w.heap.size + 1) 81 [.int .i64 0, .int .i64 0, .int .u64 0, .int .u64 0, .int .u64 0, .int .u64 0] := by
    have b := blk_new (w.alloc (.cells #[.int .i64 1, .int .i64 1, .int .i64 0, .int .i64 k, .int .i64 1, .int .u64 w0, .int .u64 v0, .int .i64 c0] 44)) 81 #[.int .i64 0, .int .i64 0, .int .u64 0, .int .u64 0, .int .u64 0, .int .u64 0] _ rfl
    simp only [World.size_alloc] at b
    rw [hW1]; exact b
  have hbel : Below w.heap.size w W1 := by rw [hW1]; exact bnew (bnew (Below.refl _ _) _) _
  have HX := Lib.hid (And.intro hb2 (And.intro hbel hb1))
  clear hb1 hb2 hbel hW1
  refine wp_region_held_drew (S := (fun w' => w'.cell? ⟨w.heap.size, 1, none⟩ = some (.int .i64 1) ∧ w'.cell? ⟨w.heap.size, 3, none⟩ = some (.int .i64 k) ∧ w'.cell? ⟨w.heap.size, 5, none⟩ = some (.int .u64 w0))) (by kernel_rfl) (⟨f1, f3, f5⟩) (fun hH0 => ?_)
  refine take_first 0 (some 49) ?_ rfl rfl (by kernel_rfl) (by kernel_rfl) (by kernel_rfl) (fun _ _ _ h => h) rfl ?hy hH0 ?_
  case hy => (intro w0 hS0; (try dsimp only at hS0); (try go_simp); try with_reducible rfl)
  try simp only [Act.put, List.setIfInBounds_toArray, List.set_cons_zero, List.set_cons_succ]
  refine take_first 1 (some 50) ?_ rfl rfl (by kernel_rfl) (by kernel_rfl) (by kernel_rfl) (fun _ _ _ h => h) rfl ?hy hH0 ?_
  case hy => (intro w0 hS0; (try dsimp only at hS0); (try go_simp); try with_reducible rfl)
  try simp only [Act.put, List.setIfInBounds_toArray, List.set_cons_zero, List.set_cons_succ]
  refine take_first 2 (some 51) ?_ rfl rfl (by kernel_rfl) (by kernel_rfl) (by kernel_rfl) (fun _ _ _ h => h) rfl ?hy hH0 ?_
  case hy => (intro w0 hS0; (try dsimp only at hS0); (try go_simp); try with_reducible rfl)
  try simp only [Act.put, List.setIfInBounds_toArray, List.set_cons_zero, List.set_cons_succ]
  refine take_first 3 (some 52) ?_ rfl rfl (by kernel_rfl) (by kernel_rfl) (by kernel_rfl) (fun _ _ _ h => h) rfl ?hy hH0 ?_
  case hy => (intro w0 hS0; (try dsimp only at hS0); (try go_simp); try with_reducible rfl)
  try simp only [Act.put, List.setIfInBounds_toArray, List.set_cons_zero, List.set_cons_succ]
  refine take_first 4 (some 53) ?_ rfl rfl (by kernel_rfl) (by kernel_rfl) (by kernel_rfl) (fun _ _ _ h => h) rfl ?hy hH0 ?_
  case hy => (intro w0 hS0; (try dsimp only at hS0); (try go_simp); try with_reducible rfl)
  try simp only [Act.put, List.setIfInBounds_toArray, List.set_cons_zero, List.set_cons_succ]
  refine take_first 5 (some 54) ?_ rfl rfl (by kernel_rfl) (by kernel_rfl) (by kernel_rfl) (fun _ _ _ h => h) rfl ?hy hH0 ?_
  case hy => (intro w0 hS0; (try dsimp only at hS0); (try go_simp); try with_reducible rfl)
  try simp only [Act.put, List.setIfInBounds_toArray, List.set_cons_zero, List.set_cons_succ]
  refine take_first 6 (some 55) ?_ rfl rfl (by kernel_rfl) (by kernel_rfl) (by kernel_rfl) (fun _ _ _ h => h) rfl ?hy hH0 ?_
  case hy => (intro w0 hS0; (try dsimp only at hS0); (try go_simp); try with_reducible rfl)
  try simp only [Act.put, List.setIfInBounds_toArray, List.set_cons_zero, List.set_cons_succ]
  refine take_first 7 (some 56) ?_ rfl rfl (by kernel_rfl) (by kernel_rfl) (by kernel_rfl) (fun _ _ _ h => h) rfl ?hy hH0 ?_
  case hy => (intro w0 hS0; (try dsimp only at hS0); (try go_simp); try with_reducible rfl)
  try simp only [Act.put, List.setIfInBounds_toArray, List.set_cons_zero, List.set_cons_succ]
  refine wpAnyH_ready (rs := [8]) (by kernel_rfl) (by simp) (AllReadyH.cons rfl (fun K hK => ?_) AllReadyH.nil)
  go_simp
  refine HB.out.mono ?_; rintro e w2 ⟨rfl, rfl⟩
  refine hK.out _ _ (hH0) (fun hH1 => ?_)
  clear hK
  try simp only [Act.put, List.setIfInBounds_toArray, List.set_cons_zero, List.set_cons_succ]
  refine take_first 9 (some 58) ?_ rfl rfl (by kernel_rfl) (by kernel_rfl) (by kernel_rfl) (fun _ _ _ h => h) rfl ?hy hH1 ?_
  case hy => (intro w0 hS0; (try dsimp only at hS0); (try go_simp); try with_reducible rfl)
  try simp only [Act.put, List.setIfInBounds_toArray, List.set_cons_zero, List.set_cons_succ]
  refine take_first 10 (some 59) ?_ rfl rfl (by kernel_rfl) (by kernel_rfl) (by kernel_rfl) (fun _ _ _ h => h) rfl ?hy hH1 ?_
  case hy => (intro w0 hS0; (try dsimp only at hS0); (try go_simp); try with_reducible rfl)
  try simp only [Act.put, List.setIfInBounds_toArray, List.set_cons_zero, List.set_cons_succ]
  refine take_first 11 (some 60) ?_ rfl rfl (by kernel_rfl) (by kernel_rfl) (by kernel_rfl) (fun _ _ _ h => h) rfl ?hy hH1 ?_
  case hy => (intro w0 hS0; (try dsimp only at hS0); (try go_simp); try with_reducible rfl)
  try simp only [Act.put, List.setIfInBounds_toArray, List.set_cons_zero, List.set_cons_succ]
  refine wpAnyH_ready (rs := [12]) (by kernel_rfl) (by simp) (AllReadyH.cons rfl (fun K hK => ?_) AllReadyH.nil)
  have hb3 := HX.out.1.drew
  have hb4 := HX.out.2.1.drew
  have hb5 := HX.out.2.2.drew
  clear f1 f3 f5 hH0 hH1
  generalize W1.drew = w3 at hb3 hb4 hb5 hK ⊢
  have HZ := Lib.hid (And.intro hb4 hb5)
  have y0 : w3.cell? ⟨w.heap.size + 1, 0, none⟩ = some (.int .i64 0) := hb3.cell 0
  have y1 : w3.cell? ⟨w.heap.size + 1, 1, none⟩ = some (.int .i64 0) := hb3.cell 1
  have y2 : w3.cell? ⟨w.heap.size + 1, 2, none⟩ = some (.int .u64 0) := hb3.cell 2
  have y3 : w3.cell? ⟨w.heap.size + 1, 3, none⟩ = some (.int .u64 0) := hb3.cell 3
  have y4 : w3.cell? ⟨w.heap.size + 1, 4, none⟩ = some (.int .u64 0) := hb3.cell 4
  have y5 : w3.cell? ⟨w.heap.size + 1, 5, none⟩ = some (.int .u64 0) := hb3.cell 5
  have z0 := hb3.free 0
  have z1 := hb3.free 1
  have z2 := hb3.free 2
  have z3 := hb3.free 3
  have z4 := hb3.free 4
  have z5 := hb3.free 5
  clear hb3 hb4 hb5
  go_simp
  have hq := ((((((HZ.out.2.other ⟨w.heap.size + 1, 0, none⟩ (.int .i64 2) (show w.heap.size ≠ w.heap.size + 1 by omega)).other ⟨w.heap.size + 1, 1, none⟩ (.int .i64 1) (show w.heap.size ≠ w.heap.size + 1 by omega)).other ⟨w.heap.size + 1, 2, none⟩ (.int .u64 w0) (show w.heap.size ≠ w.heap.size + 1 by omega)).other ⟨w.heap.size + 1, 3, none⟩ (.int .u64 (d : Nat)) (show w.heap.size ≠ w.heap.size + 1 by omega)).other ⟨w.heap.size + 1, 4, none⟩ (.int .u64 0) (show w.heap.size ≠ w.heap.size + 1 by omega)).other ⟨w.heap.size + 1, 5, none⟩ (.int .u64 0) (show w.heap.size ≠ w.heap.size + 1 by omega))
  refine hK.out _ _ (⟨hq.cell 1, hq.cell 3, hq.cell 5⟩) (fun hH2 => ?_)
  clear hK
  try simp only [Act.put, List.setIfInBounds_toArray, List.set_cons_zero, List.set_cons_succ]
  refine wpAnyH_done (by kernel_rfl) ?_ _
  clear hq hH2
  go_wp2
  refine bodyPost_ret (v := .agg #[.int .i64 2, .int .i64 1, .int .u64 w0, .int .u64 (d : Nat), .int .u64 0, .int .u64 0]) (by simp [results, Try.results32, go_sem, y0, y1, y2, y3, y4, y5, z0, z1, z2, z3, z4, z5]) rfl ⟨by rw [hp, hd], ?_⟩
  have step : ∀ (w4 : World) (i : Nat) (u : Value), Below w.heap.size w w4 → Below w.heap.size w (w4.setCell ⟨w.heap.size + 1, i, none⟩ u) := fun w4 i u h => Chg.below h ((Chg.refl (fun j => j = w.heap.size + 1) w4).setCell _ _ (fun _ => rfl)) h.size (fun k hk => by omega)
  exact step _ _ _ (step _ _ _ (step _ _ _ (step _ _ _ (step _ _ _ (step _ _ _ HZ.out.1)))))
set_option maxHeartbeats 4000000 in
set_option maxRecDepth 100000 in
theorem ruse20 (k w0 v0 c0 : Nat) (w : World) (hk : k < 8) :
    Calls Try.prog 32 #[.agg #[.int .i64 2, .int .i64 1, .int .i64 0, .int .i64 k, .int .i64 0, .int .u64 w0, .int .u64 v0, .int .i64 c0]] w fun e w' => e = .returned (.agg #[.int .i64 0, .int .i64 1, .int .u64 0, .int .u64 0, .int .u64 0, .int .u64 0]) ∧ Below w.heap.size w w' := by
  have k8 : (k : Int) < 8 := by omega
  go_enter Try.func32, Try.ntmps32
  clear hk
  go_wp2
  refine bodyPost_ret (v := .agg #[.int .i64 0, .int .i64 1, .int .u64 0, .int .u64 0, .int .u64 0, .int .u64 0]) (by simp [results, Try.results32, go_sem]) rfl ⟨rfl, ?_⟩
  first | exact bnew (bnew (Below.refl _ _) _) _ | exact (bnew (bnew (Below.refl _ _) _) _).drew
set_option maxHeartbeats 4000000 in
set_option maxRecDepth 100000 in
theorem ruse22 (k w0 v0 c0 : Nat) (w : World) (hk : k < 8) :
    Calls Try.prog 32 #[.agg #[.int .i64 2, .int .i64 1, .int .i64 0, .int .i64 k, .int .i64 2, .int .u64 w0, .int .u64 v0, .int .i64 c0]] w fun e w' => e = .returned (.agg #[.int .i64 0, .int .i64 (2 + (k : Int)), .int .u64 0, .int .u64 0, .int .u64 0, .int .u64 0]) ∧ Below w.heap.size w w' := by
  have k8 : (k : Int) < 8 := by omega
  go_enter Try.func32, Try.ntmps32
  clear hk
  go_wp2
  refine bodyPost_ret (v := .agg #[.int .i64 0, .int .i64 (2 + (k : Int)), .int .u64 0, .int .u64 0, .int .u64 0, .int .u64 0]) (by simp [results, Try.results32, go_sem]) rfl ⟨rfl, ?_⟩
  first | exact bnew (bnew (Below.refl _ _) _) _ | exact (bnew (bnew (Below.refl _ _) _) _).drew
end Go.Proofs.Ytjmooohhndjmiaa
