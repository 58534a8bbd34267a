/- contract of the reference's Entry.Put. (Printed by genrp.py.) -/
import Derived.Test.YtgfingdopelinaaScPt
import Derived.Test.YtgfingdopelinaaScOw
namespace Go.Proofs.Ytgfingdopelinaa
set_option linter.unusedSimpArgs false
set_option linter.unusedVariables false
open Go.RowKit Go.Deep

theorem cells9 {w : World} {b : Nat} {ty : TypeId} {v0 v1 v2 v3 v4 v5 v6 v7 v8 : Value} (h : Blk w b ty [v0, v1, v2, v3, v4, v5, v6, v7, v8]) : w.cell? ⟨b, 0, none⟩ = some v0 ∧ w.cell? ⟨b, 1, none⟩ = some v1 ∧ w.cell? ⟨b, 2, none⟩ = some v2 ∧ w.cell? ⟨b, 3, none⟩ = some v3 ∧ w.cell? ⟨b, 4, none⟩ = some v4 ∧ w.cell? ⟨b, 5, none⟩ = some v5 ∧ w.cell? ⟨b, 6, none⟩ = some v6 ∧ w.cell? ⟨b, 7, none⟩ = some v7 ∧ w.cell? ⟨b, 8, none⟩ = some v8 :=
  ⟨h.cell 0, h.cell 1, h.cell 2, h.cell 3, h.cell 4, h.cell 5, h.cell 6, h.cell 7, h.cell 8⟩
theorem wrap_id (n : Nat) (h : n < 18446744073709551616) : IntKind.u64.wrap (n : Int) = (n : Int) := by rw [wrap_u64, u64N_nat n h]
set_option maxRecDepth 100000 in
set_option maxHeartbeats 4000000 in
theorem rput_pick {k : Nat} {L : List Nat} (th n0 n1 n2 n3 n4 n5 : Nat) (tx : ByteArray) (w : World) (hL : BL k L) (hk : k ≤ 100000) (hth : th ≤ 63) :
    Calls Try.prog 12 #[.agg #[.int .i64 (th : Nat), .bool true, .int .u64 (n0 : Nat), .int .u64 (n1 : Nat), .int .u64 (n2 : Nat), .int .u64 (n3 : Nat), .int .u64 (n4 : Nat), .int .u64 (n5 : Nat), .string tx], .string (strOf L)] w fun r w' => r = .returned (.string (strOf (L ++ rput th true n0 n1 n2 n3 n4 n5 tx))) ∧ Below w.heap.size w w' := by
  have hr : rput th true n0 n1 n2 n3 n4 n5 tx = putN (2 * th + 1) := rfl
  rw [hr]
  have C1 := fun W => Lib.hid (rp_calls (2 * th + 1) W hL (by omega) (by omega))
  have hw0 := wrap_id th (by omega)
  have hw1 : IntKind.u64.wrap (2 * (th : Int)) = 2 * (th : Int) := wrap_id (2 * th) (by omega)
  have hw2 : IntKind.u64.wrap (2 * (th : Int) + 1) = 2 * (th : Int) + 1 := wrap_id (2 * th + 1) (by omega)
  have hcast : ((2 * th + 1 : Nat) : Int) = 2 * (th : Int) + 1 := by omega
  rw [hcast] at C1
  generalize strOf (L ++ putN (2 * th + 1)) = s1 at C1 ⊢
  generalize strOf L = s0 at C1 ⊢
  clear hL hr hcast
  go_enter Try.func12, Try.ntmps12
  go_wp2_with fail
  refine (C1 _).out.mono ?_; rintro e w2 ⟨rfl, hb2⟩
  have HB2 := Lib.hid (bseq (bnew (Below.refl _ _) _) hb2)
  clear hb2
  go_wp2
  go_ret
  exact ⟨rfl, HB2.out⟩
set_option maxRecDepth 100000 in
set_option maxHeartbeats 8000000 in
theorem rput_call {k : Nat} {L : List Nat} (th n0 n1 n2 n3 n4 n5 : Nat) (tx : ByteArray) (w : World) (hL : BL k L) (hk : k ≤ 100000) (hth : th ≤ 63) (h0 : n0 < 18446744073709551616) (h1 : n1 < 18446744073709551616) (h2 : n2 < 18446744073709551616) (h3 : n3 < 18446744073709551616) (h4 : n4 < 18446744073709551616) (h5 : n5 < 18446744073709551616) (htx : tx.size ≤ 1000) :
    Calls Try.prog 12 #[.agg #[.int .i64 (th : Nat), .bool false, .int .u64 (n0 : Nat), .int .u64 (n1 : Nat), .int .u64 (n2 : Nat), .int .u64 (n3 : Nat), .int .u64 (n4 : Nat), .int .u64 (n5 : Nat), .string tx], .string (strOf L)] w fun r w' => r = .returned (.string (strOf (L ++ rput th false n0 n1 n2 n3 n4 n5 tx))) ∧ Below w.heap.size w w' := by
  have hw0 := wrap_id th (by omega)
  have hw1 : IntKind.u64.wrap (2 * (th : Int)) = 2 * (th : Int) := wrap_id (2 * th) (by omega)
  have hwt := wrap_id tx.size (by omega)
  have b1 := hL.put (x := 2 * th) (by omega)
  have b2 := b1.put h0
  have b3 := b2.put h1
  have b4 := b3.put h4
  have b5 := b4.put (x := tx.size) (by omega)
  have b6 := b3.put h2
  have b7 := b6.put h3
  have C1 := fun W => Lib.hid (rp_calls (2 * th) W hL (by omega) (by omega))
  have C2 := fun W => Lib.hid (rp_calls n0 W b1 h0 (by omega))
  have C3 := fun W => Lib.hid (rp_calls n1 W b2 h1 (by omega))
  have C4 := fun W => Lib.hid (rp_calls n4 W b3 h4 (by omega))
  have C5 := fun W => Lib.hid (rp_calls tx.size W b4 (by omega) (by omega))
  have C6 := fun W => Lib.hid (rp_calls n2 W b3 h2 (by omega))
  have C7 := fun W => Lib.hid (rp_calls n3 W b6 h3 (by omega))
  have C8 := fun W => Lib.hid (rp_calls n5 W b7 h5 (by omega))
  have C9 := fun W => Lib.hid (rp_calls n5 W b3 h5 (by omega))
  have hcast : ((2 * th : Nat) : Int) = 2 * (th : Int) := by omega
  rw [hcast] at C1
  have hcat : strOf (L ++ putN (2 * th) ++ putN n0 ++ putN n1 ++ putN n4 ++ putN tx.size) ++ tx = strOf (L ++ putN (2 * th) ++ putN n0 ++ putN n1 ++ putN n4 ++ putN tx.size ++ bytesOf tx) := by
    conv => lhs; rhs; rw [← strOf_bytesOf tx]
    rw [strOf_app]
  have hsz : (strOf (L ++ putN (2 * th) ++ putN n0 ++ putN n1 ++ putN n4 ++ putN tx.size)).size + tx.size ≤ 9223372036854775807 := by rw [strOf_len]; have := b5.2; omega
  have HR : Hid (strOf (L ++ rput th false n0 n1 n2 n3 n4 n5 tx) = if n0 = 0 then strOf (L ++ putN (2 * th) ++ putN n0 ++ putN n1 ++ putN n4 ++ putN tx.size ++ bytesOf tx) else if 2 ≤ n0 then (if n0 = 4 then strOf (L ++ putN (2 * th) ++ putN n0 ++ putN n1 ++ putN n2 ++ putN n3 ++ putN n5) else strOf (L ++ putN (2 * th) ++ putN n0 ++ putN n1 ++ putN n2 ++ putN n3)) else strOf (L ++ putN (2 * th) ++ putN n0 ++ putN n1)) := Lib.hid (by
    unfold rput
    by_cases e0 : n0 = 0
    · simp [e0]
    · by_cases e2 : 2 ≤ n0
      · by_cases e4 : n0 = 4
        · simp [e4]
        · simp [e0, e2, e4]
      · have e4 : ¬ n0 = 4 := by omega
        simp [e0, e2, e4])
  generalize strOf (L ++ rput th false n0 n1 n2 n3 n4 n5 tx) = sR at HR ⊢
  generalize strOf (L ++ putN (2 * th) ++ putN n0 ++ putN n1 ++ putN n4 ++ putN tx.size ++ bytesOf tx) = s9 at *
  generalize strOf (L ++ putN (2 * th) ++ putN n0 ++ putN n1 ++ putN n4 ++ putN tx.size) = s5 at *
  generalize strOf (L ++ putN (2 * th) ++ putN n0 ++ putN n1 ++ putN n4) = s4 at *
  generalize strOf (L ++ putN (2 * th) ++ putN n0 ++ putN n1 ++ putN n2 ++ putN n3 ++ putN n5) = s8 at *
  generalize strOf (L ++ putN (2 * th) ++ putN n0 ++ putN n1 ++ putN n2 ++ putN n3) = s7 at *
  generalize strOf (L ++ putN (2 * th) ++ putN n0 ++ putN n1 ++ putN n2) = s6 at *
  generalize strOf (L ++ putN (2 * th) ++ putN n0 ++ putN n1 ++ putN n5) = sX at *
  generalize strOf (L ++ putN (2 * th) ++ putN n0 ++ putN n1) = s3 at *
  generalize strOf (L ++ putN (2 * th) ++ putN n0) = s2 at *
  generalize strOf (L ++ putN (2 * th)) = s1 at *
  generalize strOf L = s0 at *
  clear hL b1 b2 b3 b4 b5 b6 b7 C9 hcast
  have HN0 := Lib.hid h0
  clear h0 h1 h2 h3 h4 h5 hth hk
  go_enter Try.func12, Try.ntmps12
  go_upto_region 1 with fail
  have HBK := Lib.hid (Blk.new w 38 [.int .i64 (th : Nat), .bool false, .int .u64 (n0 : Nat), .int .u64 (n1 : Nat), .int .u64 (n2 : Nat), .int .u64 (n3 : Nat), .int .u64 (n4 : Nat), .int .u64 (n5 : Nat), .string tx])
  have HB : Hid (Below w.heap.size w (w.alloc (.cells #[.int .i64 (th : Nat), .bool false, .int .u64 (n0 : Nat), .int .u64 (n1 : Nat), .int .u64 (n2 : Nat), .int .u64 (n3 : Nat), .int .u64 (n4 : Nat), .int .u64 (n5 : Nat), .string tx] 38))) := Lib.hid (bnew (Below.refl _ _) _)
  generalize w.alloc (.cells #[.int .i64 (th : Nat), .bool false, .int .u64 (n0 : Nat), .int .u64 (n1 : Nat), .int .u64 (n2 : Nat), .int .u64 (n3 : Nat), .int .u64 (n4 : Nat), .int .u64 (n5 : Nat), .string tx] 38) = w1 at HBK HB ⊢
  obtain ⟨bb, hbb⟩ : ∃ b, w.heap.size = b := ⟨_, rfl⟩
  rw [hbb] at HBK
  rw [show (some (⟨w.heap.size, 0, none⟩ : Addr)) = some ⟨bb, 0, none⟩ by rw [hbb]]
  clear hbb
  obtain ⟨c0, c1, c2, c3, c4, c5, c6, c7, c8⟩ := cells9 HBK.out
  go_upto_region 3 with fail
  refine wp_region_held_drew (S := (fun w' => w'.cell? ⟨bb, 0, none⟩ = some (.int .i64 (th : Nat)) ∧ w'.cell? ⟨bb, 1, none⟩ = some (.bool false) ∧ w'.cell? ⟨bb, 2, none⟩ = some (.int .u64 (n0 : Nat)) ∧ w'.cell? ⟨bb, 3, none⟩ = some (.int .u64 (n1 : Nat)) ∧ w'.cell? ⟨bb, 4, none⟩ = some (.int .u64 (n2 : Nat)) ∧ w'.cell? ⟨bb, 5, none⟩ = some (.int .u64 (n3 : Nat)) ∧ w'.cell? ⟨bb, 6, none⟩ = some (.int .u64 (n4 : Nat)) ∧ w'.cell? ⟨bb, 7, none⟩ = some (.int .u64 (n5 : Nat)) ∧ w'.cell? ⟨bb, 8, none⟩ = some (.string tx))) (by kernel_rfl) (⟨c0, c1, c2, c3, c4, c5, c6, c7, c8⟩) (fun hH0 => ?_)
  clear c0 c1 c2 c3 c4 c5 c6 c7 c8
  refine take_first 0 (some 14) ?_ rfl rfl (by kernel_rfl) (by kernel_rfl) (by kernel_rfl) (fun _ _ _ h => h) rfl ?hy hH0 ?_
  case hy => (intro w0 hS0; (try dsimp only at hS0); (try go_simp); try with_reducible rfl)
  try simp only [Act.put, List.setIfInBounds_toArray, List.set_cons_zero, List.set_cons_succ]
  refine take_first 1 (some 15) ?_ rfl rfl (by kernel_rfl) (by kernel_rfl) (by kernel_rfl) (fun _ _ _ h => h) rfl ?hy hH0 ?_
  case hy => (intro w0 hS0; (try dsimp only at hS0); (try go_simp); try with_reducible rfl)
  try simp only [Act.put, List.setIfInBounds_toArray, List.set_cons_zero, List.set_cons_succ]
  refine take_first 2 (some 16) ?_ rfl rfl (by kernel_rfl) (by kernel_rfl) (by kernel_rfl) (fun _ _ _ h => h) rfl ?hy hH0 ?_
  case hy => (intro w0 hS0; (try dsimp only at hS0); (try go_simp); try with_reducible rfl)
  try simp only [Act.put, List.setIfInBounds_toArray, List.set_cons_zero, List.set_cons_succ]
  refine take_first 3 (some 17) ?_ rfl rfl (by kernel_rfl) (by kernel_rfl) (by kernel_rfl) (fun _ _ _ h => h) rfl ?hy hH0 ?_
  case hy => (intro w0 hS0; (try dsimp only at hS0); (try go_simp); try with_reducible rfl)
  try simp only [Act.put, List.setIfInBounds_toArray, List.set_cons_zero, List.set_cons_succ]
  refine take_first 4 (some 18) ?_ rfl rfl (by kernel_rfl) (by kernel_rfl) (by kernel_rfl) (fun _ _ _ h => h) rfl ?hy hH0 ?_
  case hy => (intro w0 hS0; (try dsimp only at hS0); (try go_simp); try with_reducible rfl)
  try simp only [Act.put, List.setIfInBounds_toArray, List.set_cons_zero, List.set_cons_succ]
  refine take_first 6 (some 20) ?_ rfl rfl (by kernel_rfl) (by kernel_rfl) (by kernel_rfl) (fun _ _ _ h => h) rfl ?hy hH0 ?_
  case hy => (intro w0 hS0; (try dsimp only at hS0); (try go_simp); try with_reducible rfl)
  try simp only [Act.put, List.setIfInBounds_toArray, List.set_cons_zero, List.set_cons_succ]
  refine take_first 7 (some 21) ?_ rfl rfl (by kernel_rfl) (by kernel_rfl) (by kernel_rfl) (fun _ _ _ h => h) rfl ?hy hH0 ?_
  case hy => (intro w0 hS0; (try dsimp only at hS0); (try go_simp); try with_reducible rfl)
  try simp only [Act.put, List.setIfInBounds_toArray, List.set_cons_zero, List.set_cons_succ]
  refine take_first 8 (some 22) ?_ rfl rfl (by kernel_rfl) (by kernel_rfl) (by kernel_rfl) (fun _ _ _ h => h) rfl ?hy hH0 ?_
  case hy => (intro w0 hS0; (try dsimp only at hS0); (try go_simp); try with_reducible rfl)
  try simp only [Act.put, List.setIfInBounds_toArray, List.set_cons_zero, List.set_cons_succ]
  refine take_first 10 (some 24) ?_ rfl rfl (by kernel_rfl) (by kernel_rfl) (by kernel_rfl) (fun _ _ _ h => h) rfl ?hy hH0 ?_
  case hy => (intro w0 hS0; (try dsimp only at hS0); (try go_simp); try with_reducible rfl)
  try simp only [Act.put, List.setIfInBounds_toArray, List.set_cons_zero, List.set_cons_succ]
  refine take_first 11 (some 25) ?_ rfl rfl (by kernel_rfl) (by kernel_rfl) (by kernel_rfl) (fun _ _ _ h => h) rfl ?hy hH0 ?_
  case hy => (intro w0 hS0; (try dsimp only at hS0); (try go_simp); try with_reducible rfl)
  try simp only [Act.put, List.setIfInBounds_toArray, List.set_cons_zero, List.set_cons_succ]
  refine take_first 12 (some 26) ?_ rfl rfl (by kernel_rfl) (by kernel_rfl) (by kernel_rfl) (fun _ _ _ h => h) rfl ?hy hH0 ?_
  case hy => (intro w0 hS0; (try dsimp only at hS0); (try go_simp); try with_reducible rfl)
  try simp only [Act.put, List.setIfInBounds_toArray, List.set_cons_zero, List.set_cons_succ]
  refine wpAnyH_ready (rs := [5]) (by kernel_rfl) (by simp) (AllReadyH.cons rfl (fun K hK => ?_) AllReadyH.nil)
  go_simp
  refine (C1 _).out.mono ?_; rintro e w2 ⟨rfl, hbw2⟩
  have HB2 : Hid (Below w.heap.size w w2) := Lib.hid (bseq (HB.out.trans (Below.refl _ _).drew) hbw2)
  refine hK.out _ _ (⟨kcell hbw2 (hH0.1), kcell hbw2 (hH0.2.1), kcell hbw2 (hH0.2.2.1), kcell hbw2 (hH0.2.2.2.1), kcell hbw2 (hH0.2.2.2.2.1), kcell hbw2 (hH0.2.2.2.2.2.1), kcell hbw2 (hH0.2.2.2.2.2.2.1), kcell hbw2 (hH0.2.2.2.2.2.2.2.1), kcell hbw2 (hH0.2.2.2.2.2.2.2.2)⟩) (fun hH1 => ?_)
  clear hK hH0
  try simp only [Act.put, List.setIfInBounds_toArray, List.set_cons_zero, List.set_cons_succ]
  refine wpAnyH_ready (rs := [9]) (by kernel_rfl) (by simp) (AllReadyH.cons rfl (fun K hK => ?_) AllReadyH.nil)
  go_simp
  refine (C2 _).out.mono ?_; rintro e w3 ⟨rfl, hbw3⟩
  have HB3 : Hid (Below w.heap.size w w3) := Lib.hid (bseq (HB2.out) hbw3)
  refine hK.out _ _ (⟨kcell hbw3 (hH1.1), kcell hbw3 (hH1.2.1), kcell hbw3 (hH1.2.2.1), kcell hbw3 (hH1.2.2.2.1), kcell hbw3 (hH1.2.2.2.2.1), kcell hbw3 (hH1.2.2.2.2.2.1), kcell hbw3 (hH1.2.2.2.2.2.2.1), kcell hbw3 (hH1.2.2.2.2.2.2.2.1), kcell hbw3 (hH1.2.2.2.2.2.2.2.2)⟩) (fun hH2 => ?_)
  clear hK hH1
  try simp only [Act.put, List.setIfInBounds_toArray, List.set_cons_zero, List.set_cons_succ]
  refine wpAnyH_ready (rs := [13]) (by kernel_rfl) (by simp) (AllReadyH.cons rfl (fun K hK => ?_) AllReadyH.nil)
  go_simp
  refine (C3 _).out.mono ?_; rintro e w4 ⟨rfl, hbw4⟩
  have HB4 : Hid (Below w.heap.size w w4) := Lib.hid (bseq (HB3.out) hbw4)
  refine hK.out _ _ (⟨kcell hbw4 (hH2.1), kcell hbw4 (hH2.2.1), kcell hbw4 (hH2.2.2.1), kcell hbw4 (hH2.2.2.2.1), kcell hbw4 (hH2.2.2.2.2.1), kcell hbw4 (hH2.2.2.2.2.2.1), kcell hbw4 (hH2.2.2.2.2.2.2.1), kcell hbw4 (hH2.2.2.2.2.2.2.2.1), kcell hbw4 (hH2.2.2.2.2.2.2.2.2)⟩) (fun hH3 => ?_)
  clear hK hH2
  try simp only [Act.put, List.setIfInBounds_toArray, List.set_cons_zero, List.set_cons_succ]
  refine take_first 14 (some 1) ?_ rfl rfl (by kernel_rfl) (by kernel_rfl) (by kernel_rfl) (fun _ _ _ h => h) rfl ?hy hH3 ?_
  case hy => (intro w0 hS0; (try dsimp only at hS0); (try go_simp); try with_reducible rfl)
  try simp only [Act.put, List.setIfInBounds_toArray, List.set_cons_zero, List.set_cons_succ]
  refine wpAnyH_done (by kernel_rfl) ?_ _
  obtain ⟨c0, c1, c2, c3, c4, c5, c6, c7, c8⟩ := hH3
  clear hbw2 hbw3 hbw4
  by_cases e0 : n0 = 0
  · have hR : sR = s9 := by rw [HR.out, if_pos e0]
    subst hR
    have t0 : ((n0 : Int) == 0) = true := by rw [beq_iff_eq]; omega
    clear e0
    go_upto_region 5 with fail
    refine wp_region_held_drew (S := (fun w' => w'.cell? ⟨bb, 0, none⟩ = some (.int .i64 (th : Nat)) ∧ w'.cell? ⟨bb, 1, none⟩ = some (.bool false) ∧ w'.cell? ⟨bb, 2, none⟩ = some (.int .u64 (n0 : Nat)) ∧ w'.cell? ⟨bb, 3, none⟩ = some (.int .u64 (n1 : Nat)) ∧ w'.cell? ⟨bb, 4, none⟩ = some (.int .u64 (n2 : Nat)) ∧ w'.cell? ⟨bb, 5, none⟩ = some (.int .u64 (n3 : Nat)) ∧ w'.cell? ⟨bb, 6, none⟩ = some (.int .u64 (n4 : Nat)) ∧ w'.cell? ⟨bb, 7, none⟩ = some (.int .u64 (n5 : Nat)) ∧ w'.cell? ⟨bb, 8, none⟩ = some (.string tx))) (by kernel_rfl) (⟨c0, c1, c2, c3, c4, c5, c6, c7, c8⟩) (fun hH0 => ?_)
    clear c0 c1 c2 c3 c4 c5 c6 c7 c8
    refine take_first 0 (some 32) ?_ rfl rfl (by kernel_rfl) (by kernel_rfl) (by kernel_rfl) (fun _ _ _ h => h) rfl ?hy hH0 ?_
    case hy => (intro w0 hS0; (try dsimp only at hS0); (try go_simp); try with_reducible rfl)
    try simp only [Act.put, List.setIfInBounds_toArray, List.set_cons_zero, List.set_cons_succ]
    refine take_first 1 (some 33) ?_ rfl rfl (by kernel_rfl) (by kernel_rfl) (by kernel_rfl) (fun _ _ _ h => h) rfl ?hy hH0 ?_
    case hy => (intro w0 hS0; (try dsimp only at hS0); (try go_simp); try with_reducible rfl)
    try simp only [Act.put, List.setIfInBounds_toArray, List.set_cons_zero, List.set_cons_succ]
    refine take_first 2 (some 34) ?_ rfl rfl (by kernel_rfl) (by kernel_rfl) (by kernel_rfl) (fun _ _ _ h => h) rfl ?hy hH0 ?_
    case hy => (intro w0 hS0; (try dsimp only at hS0); (try go_simp); try with_reducible rfl)
    try simp only [Act.put, List.setIfInBounds_toArray, List.set_cons_zero, List.set_cons_succ]
    refine take_first 3 (some 35) ?_ rfl rfl (by kernel_rfl) (by kernel_rfl) (by kernel_rfl) (fun _ _ _ h => h) rfl ?hy hH0 ?_
    case hy => (intro w0 hS0; (try dsimp only at hS0); (try go_simp); try with_reducible rfl)
    try simp only [Act.put, List.setIfInBounds_toArray, List.set_cons_zero, List.set_cons_succ]
    refine take_first 5 (some 37) ?_ rfl rfl (by kernel_rfl) (by kernel_rfl) (by kernel_rfl) (fun _ _ _ h => h) rfl ?hy hH0 ?_
    case hy => (intro w0 hS0; (try dsimp only at hS0); (try go_simp); try with_reducible rfl)
    try simp only [Act.put, List.setIfInBounds_toArray, List.set_cons_zero, List.set_cons_succ]
    refine take_first 6 (some 38) ?_ rfl rfl (by kernel_rfl) (by kernel_rfl) (by kernel_rfl) (fun _ _ _ h => h) rfl ?hy hH0 ?_
    case hy => (intro w0 hS0; (try dsimp only at hS0); (try go_simp); try with_reducible rfl)
    try simp only [Act.put, List.setIfInBounds_toArray, List.set_cons_zero, List.set_cons_succ]
    refine take_first 7 (some 39) ?_ rfl rfl (by kernel_rfl) (by kernel_rfl) (by kernel_rfl) (fun _ _ _ h => h) rfl ?hy hH0 ?_
    case hy => (intro w0 hS0; (try dsimp only at hS0); (try go_simp); try with_reducible rfl)
    try simp only [Act.put, List.setIfInBounds_toArray, List.set_cons_zero, List.set_cons_succ]
    refine take_first 8 (some 40) ?_ rfl rfl (by kernel_rfl) (by kernel_rfl) (by kernel_rfl) (fun _ _ _ h => h) rfl ?hy hH0 ?_
    case hy => (intro w0 hS0; (try dsimp only at hS0); (try go_simp); try with_reducible rfl)
    try simp only [Act.put, List.setIfInBounds_toArray, List.set_cons_zero, List.set_cons_succ]
    refine take_first 10 (some 42) ?_ rfl rfl (by kernel_rfl) (by kernel_rfl) (by kernel_rfl) (fun _ _ _ h => h) rfl ?hy hH0 ?_
    case hy => (intro w0 hS0; (try dsimp only at hS0); (try go_simp); try with_reducible rfl)
    try simp only [Act.put, List.setIfInBounds_toArray, List.set_cons_zero, List.set_cons_succ]
    refine take_first 11 (some 43) ?_ rfl rfl (by kernel_rfl) (by kernel_rfl) (by kernel_rfl) (fun _ _ _ h => h) rfl ?hy hH0 ?_
    case hy => (intro w0 hS0; (try dsimp only at hS0); (try go_simp); try with_reducible rfl)
    try simp only [Act.put, List.setIfInBounds_toArray, List.set_cons_zero, List.set_cons_succ]
    refine wpAnyH_ready (rs := [4]) (by kernel_rfl) (by simp) (AllReadyH.cons rfl (fun K hK => ?_) AllReadyH.nil)
    go_simp
    refine (C4 _).out.mono ?_; rintro e w5 ⟨rfl, hbw5⟩
    have HB5 : Hid (Below w.heap.size w w5) := Lib.hid (bseq (HB4.out.trans (Below.refl _ _).drew) hbw5)
    refine hK.out _ _ (⟨kcell hbw5 (hH0.1), kcell hbw5 (hH0.2.1), kcell hbw5 (hH0.2.2.1), kcell hbw5 (hH0.2.2.2.1), kcell hbw5 (hH0.2.2.2.2.1), kcell hbw5 (hH0.2.2.2.2.2.1), kcell hbw5 (hH0.2.2.2.2.2.2.1), kcell hbw5 (hH0.2.2.2.2.2.2.2.1), kcell hbw5 (hH0.2.2.2.2.2.2.2.2)⟩) (fun hH1 => ?_)
    clear hK hH0
    try simp only [Act.put, List.setIfInBounds_toArray, List.set_cons_zero, List.set_cons_succ]
    refine wpAnyH_ready (rs := [9]) (by kernel_rfl) (by simp) (AllReadyH.cons rfl (fun K hK => ?_) AllReadyH.nil)
    go_simp
    refine (C5 _).out.mono ?_; rintro e w6 ⟨rfl, hbw6⟩
    have HB6 : Hid (Below w.heap.size w w6) := Lib.hid (bseq (HB5.out) hbw6)
    refine hK.out _ _ (⟨kcell hbw6 (hH1.1), kcell hbw6 (hH1.2.1), kcell hbw6 (hH1.2.2.1), kcell hbw6 (hH1.2.2.2.1), kcell hbw6 (hH1.2.2.2.2.1), kcell hbw6 (hH1.2.2.2.2.2.1), kcell hbw6 (hH1.2.2.2.2.2.2.1), kcell hbw6 (hH1.2.2.2.2.2.2.2.1), kcell hbw6 (hH1.2.2.2.2.2.2.2.2)⟩) (fun hH2 => ?_)
    clear hK hH1
    try simp only [Act.put, List.setIfInBounds_toArray, List.set_cons_zero, List.set_cons_succ]
    refine take_first 12 (some 44) (.string sR) rfl rfl (by kernel_rfl) (by kernel_rfl) (by kernel_rfl) (fun _ _ _ h => h) rfl (by intro w0 hS0; (try dsimp only at hS0); go_simp) hH2 ?_
    try simp only [Act.put, List.setIfInBounds_toArray, List.set_cons_zero, List.set_cons_succ]
    refine take_first 13 (some 4) ?_ rfl rfl (by kernel_rfl) (by kernel_rfl) (by kernel_rfl) (fun _ _ _ h => h) rfl ?hy hH2 ?_
    case hy => (intro w0 hS0; (try dsimp only at hS0); (try go_simp); try with_reducible rfl)
    try simp only [Act.put, List.setIfInBounds_toArray, List.set_cons_zero, List.set_cons_succ]
    refine wpAnyH_done (by kernel_rfl) ?_ _
    obtain ⟨c0, c1, c2, c3, c4, c5, c6, c7, c8⟩ := hH2
    clear hbw5 hbw6
    go_wp2
    go_ret
    exact ⟨rfl, HB6.out⟩
  · by_cases e2 : 2 ≤ n0
    · by_cases e4 : n0 = 4
      · have hR : sR = s8 := by rw [HR.out, if_neg e0, if_pos e2, if_pos e4]
        subst hR
        have t0 : ((n0 : Int) == 0) = false := by rw [beq_eq_false_iff_ne]; omega
        have t4 : ((n0 : Int) == 4) = true := by rw [beq_iff_eq]; omega
        have t2 : decide ((2 : Int) ≤ (n0 : Int)) = true := by simp; omega
        clear e0 e2 e4
        go_upto_region 7 with fail
        refine wp_region_held_drew (S := (fun w' => w'.cell? ⟨bb, 0, none⟩ = some (.int .i64 (th : Nat)) ∧ w'.cell? ⟨bb, 1, none⟩ = some (.bool false) ∧ w'.cell? ⟨bb, 2, none⟩ = some (.int .u64 (n0 : Nat)) ∧ w'.cell? ⟨bb, 3, none⟩ = some (.int .u64 (n1 : Nat)) ∧ w'.cell? ⟨bb, 4, none⟩ = some (.int .u64 (n2 : Nat)) ∧ w'.cell? ⟨bb, 5, none⟩ = some (.int .u64 (n3 : Nat)) ∧ w'.cell? ⟨bb, 6, none⟩ = some (.int .u64 (n4 : Nat)) ∧ w'.cell? ⟨bb, 7, none⟩ = some (.int .u64 (n5 : Nat)) ∧ w'.cell? ⟨bb, 8, none⟩ = some (.string tx))) (by kernel_rfl) (⟨c0, c1, c2, c3, c4, c5, c6, c7, c8⟩) (fun hH0 => ?_)
        clear c0 c1 c2 c3 c4 c5 c6 c7 c8
        refine take_first 0 (some 49) ?_ rfl rfl (by kernel_rfl) (by kernel_rfl) (by kernel_rfl) (fun _ _ _ h => h) rfl ?hy hH0 ?_
        case hy => (intro w0 hS0; (try dsimp only at hS0); (try go_simp); try with_reducible rfl)
        try simp only [Act.put, List.setIfInBounds_toArray, List.set_cons_zero, List.set_cons_succ]
        refine take_first 1 (some 50) ?_ rfl rfl (by kernel_rfl) (by kernel_rfl) (by kernel_rfl) (fun _ _ _ h => h) rfl ?hy hH0 ?_
        case hy => (intro w0 hS0; (try dsimp only at hS0); (try go_simp); try with_reducible rfl)
        try simp only [Act.put, List.setIfInBounds_toArray, List.set_cons_zero, List.set_cons_succ]
        refine take_first 2 (some 51) ?_ rfl rfl (by kernel_rfl) (by kernel_rfl) (by kernel_rfl) (fun _ _ _ h => h) rfl ?hy hH0 ?_
        case hy => (intro w0 hS0; (try dsimp only at hS0); (try go_simp); try with_reducible rfl)
        try simp only [Act.put, List.setIfInBounds_toArray, List.set_cons_zero, List.set_cons_succ]
        refine take_first 3 (some 52) ?_ rfl rfl (by kernel_rfl) (by kernel_rfl) (by kernel_rfl) (fun _ _ _ h => h) rfl ?hy hH0 ?_
        case hy => (intro w0 hS0; (try dsimp only at hS0); (try go_simp); try with_reducible rfl)
        try simp only [Act.put, List.setIfInBounds_toArray, List.set_cons_zero, List.set_cons_succ]
        refine take_first 5 (some 54) ?_ rfl rfl (by kernel_rfl) (by kernel_rfl) (by kernel_rfl) (fun _ _ _ h => h) rfl ?hy hH0 ?_
        case hy => (intro w0 hS0; (try dsimp only at hS0); (try go_simp); try with_reducible rfl)
        try simp only [Act.put, List.setIfInBounds_toArray, List.set_cons_zero, List.set_cons_succ]
        refine take_first 6 (some 55) ?_ rfl rfl (by kernel_rfl) (by kernel_rfl) (by kernel_rfl) (fun _ _ _ h => h) rfl ?hy hH0 ?_
        case hy => (intro w0 hS0; (try dsimp only at hS0); (try go_simp); try with_reducible rfl)
        try simp only [Act.put, List.setIfInBounds_toArray, List.set_cons_zero, List.set_cons_succ]
        refine take_first 7 (some 56) ?_ rfl rfl (by kernel_rfl) (by kernel_rfl) (by kernel_rfl) (fun _ _ _ h => h) rfl ?hy hH0 ?_
        case hy => (intro w0 hS0; (try dsimp only at hS0); (try go_simp); try with_reducible rfl)
        try simp only [Act.put, List.setIfInBounds_toArray, List.set_cons_zero, List.set_cons_succ]
        refine wpAnyH_ready (rs := [4]) (by kernel_rfl) (by simp) (AllReadyH.cons rfl (fun K hK => ?_) AllReadyH.nil)
        go_simp
        refine (C6 _).out.mono ?_; rintro e w5 ⟨rfl, hbw5⟩
        have HB5 : Hid (Below w.heap.size w w5) := Lib.hid (bseq (HB4.out.trans (Below.refl _ _).drew) hbw5)
        refine hK.out _ _ (⟨kcell hbw5 (hH0.1), kcell hbw5 (hH0.2.1), kcell hbw5 (hH0.2.2.1), kcell hbw5 (hH0.2.2.2.1), kcell hbw5 (hH0.2.2.2.2.1), kcell hbw5 (hH0.2.2.2.2.2.1), kcell hbw5 (hH0.2.2.2.2.2.2.1), kcell hbw5 (hH0.2.2.2.2.2.2.2.1), kcell hbw5 (hH0.2.2.2.2.2.2.2.2)⟩) (fun hH1 => ?_)
        clear hK hH0
        try simp only [Act.put, List.setIfInBounds_toArray, List.set_cons_zero, List.set_cons_succ]
        refine wpAnyH_ready (rs := [8]) (by kernel_rfl) (by simp) (AllReadyH.cons rfl (fun K hK => ?_) AllReadyH.nil)
        go_simp
        refine (C7 _).out.mono ?_; rintro e w6 ⟨rfl, hbw6⟩
        have HB6 : Hid (Below w.heap.size w w6) := Lib.hid (bseq (HB5.out) hbw6)
        refine hK.out _ _ (⟨kcell hbw6 (hH1.1), kcell hbw6 (hH1.2.1), kcell hbw6 (hH1.2.2.1), kcell hbw6 (hH1.2.2.2.1), kcell hbw6 (hH1.2.2.2.2.1), kcell hbw6 (hH1.2.2.2.2.2.1), kcell hbw6 (hH1.2.2.2.2.2.2.1), kcell hbw6 (hH1.2.2.2.2.2.2.2.1), kcell hbw6 (hH1.2.2.2.2.2.2.2.2)⟩) (fun hH2 => ?_)
        clear hK hH1
        try simp only [Act.put, List.setIfInBounds_toArray, List.set_cons_zero, List.set_cons_succ]
        refine take_first 9 (some 1) ?_ rfl rfl (by kernel_rfl) (by kernel_rfl) (by kernel_rfl) (fun _ _ _ h => h) rfl ?hy hH2 ?_
        case hy => (intro w0 hS0; (try dsimp only at hS0); (try go_simp); try with_reducible rfl)
        try simp only [Act.put, List.setIfInBounds_toArray, List.set_cons_zero, List.set_cons_succ]
        refine wpAnyH_done (by kernel_rfl) ?_ _
        obtain ⟨c0, c1, c2, c3, c4, c5, c6, c7, c8⟩ := hH2
        clear hbw5 hbw6
        go_wp2_with fail
        refine (C8 _).out.mono ?_; rintro e w7 ⟨rfl, hb7⟩
        have HB7 := Lib.hid (bseq HB6.out hb7)
        clear hb7
        go_wp2
        go_ret
        exact ⟨rfl, HB7.out⟩
      · have hR : sR = s7 := by rw [HR.out, if_neg e0, if_pos e2, if_neg e4]
        subst hR
        have t0 : ((n0 : Int) == 0) = false := by rw [beq_eq_false_iff_ne]; omega
        have t4 : ((n0 : Int) == 4) = false := by rw [beq_eq_false_iff_ne]; omega
        have t2 : decide ((2 : Int) ≤ (n0 : Int)) = true := by simp; omega
        clear e0 e2 e4
        go_upto_region 7 with fail
        refine wp_region_held_drew (S := (fun w' => w'.cell? ⟨bb, 0, none⟩ = some (.int .i64 (th : Nat)) ∧ w'.cell? ⟨bb, 1, none⟩ = some (.bool false) ∧ w'.cell? ⟨bb, 2, none⟩ = some (.int .u64 (n0 : Nat)) ∧ w'.cell? ⟨bb, 3, none⟩ = some (.int .u64 (n1 : Nat)) ∧ w'.cell? ⟨bb, 4, none⟩ = some (.int .u64 (n2 : Nat)) ∧ w'.cell? ⟨bb, 5, none⟩ = some (.int .u64 (n3 : Nat)) ∧ w'.cell? ⟨bb, 6, none⟩ = some (.int .u64 (n4 : Nat)) ∧ w'.cell? ⟨bb, 7, none⟩ = some (.int .u64 (n5 : Nat)) ∧ w'.cell? ⟨bb, 8, none⟩ = some (.string tx))) (by kernel_rfl) (⟨c0, c1, c2, c3, c4, c5, c6, c7, c8⟩) (fun hH0 => ?_)
        clear c0 c1 c2 c3 c4 c5 c6 c7 c8
        refine take_first 0 (some 49) ?_ rfl rfl (by kernel_rfl) (by kernel_rfl) (by kernel_rfl) (fun _ _ _ h => h) rfl ?hy hH0 ?_
        case hy => (intro w0 hS0; (try dsimp only at hS0); (try go_simp); try with_reducible rfl)
        try simp only [Act.put, List.setIfInBounds_toArray, List.set_cons_zero, List.set_cons_succ]
        refine take_first 1 (some 50) ?_ rfl rfl (by kernel_rfl) (by kernel_rfl) (by kernel_rfl) (fun _ _ _ h => h) rfl ?hy hH0 ?_
        case hy => (intro w0 hS0; (try dsimp only at hS0); (try go_simp); try with_reducible rfl)
        try simp only [Act.put, List.setIfInBounds_toArray, List.set_cons_zero, List.set_cons_succ]
        refine take_first 2 (some 51) ?_ rfl rfl (by kernel_rfl) (by kernel_rfl) (by kernel_rfl) (fun _ _ _ h => h) rfl ?hy hH0 ?_
        case hy => (intro w0 hS0; (try dsimp only at hS0); (try go_simp); try with_reducible rfl)
        try simp only [Act.put, List.setIfInBounds_toArray, List.set_cons_zero, List.set_cons_succ]
        refine take_first 3 (some 52) ?_ rfl rfl (by kernel_rfl) (by kernel_rfl) (by kernel_rfl) (fun _ _ _ h => h) rfl ?hy hH0 ?_
        case hy => (intro w0 hS0; (try dsimp only at hS0); (try go_simp); try with_reducible rfl)
        try simp only [Act.put, List.setIfInBounds_toArray, List.set_cons_zero, List.set_cons_succ]
        refine take_first 5 (some 54) ?_ rfl rfl (by kernel_rfl) (by kernel_rfl) (by kernel_rfl) (fun _ _ _ h => h) rfl ?hy hH0 ?_
        case hy => (intro w0 hS0; (try dsimp only at hS0); (try go_simp); try with_reducible rfl)
        try simp only [Act.put, List.setIfInBounds_toArray, List.set_cons_zero, List.set_cons_succ]
        refine take_first 6 (some 55) ?_ rfl rfl (by kernel_rfl) (by kernel_rfl) (by kernel_rfl) (fun _ _ _ h => h) rfl ?hy hH0 ?_
        case hy => (intro w0 hS0; (try dsimp only at hS0); (try go_simp); try with_reducible rfl)
        try simp only [Act.put, List.setIfInBounds_toArray, List.set_cons_zero, List.set_cons_succ]
        refine take_first 7 (some 56) ?_ rfl rfl (by kernel_rfl) (by kernel_rfl) (by kernel_rfl) (fun _ _ _ h => h) rfl ?hy hH0 ?_
        case hy => (intro w0 hS0; (try dsimp only at hS0); (try go_simp); try with_reducible rfl)
        try simp only [Act.put, List.setIfInBounds_toArray, List.set_cons_zero, List.set_cons_succ]
        refine wpAnyH_ready (rs := [4]) (by kernel_rfl) (by simp) (AllReadyH.cons rfl (fun K hK => ?_) AllReadyH.nil)
        go_simp
        refine (C6 _).out.mono ?_; rintro e w5 ⟨rfl, hbw5⟩
        have HB5 : Hid (Below w.heap.size w w5) := Lib.hid (bseq (HB4.out.trans (Below.refl _ _).drew) hbw5)
        refine hK.out _ _ (⟨kcell hbw5 (hH0.1), kcell hbw5 (hH0.2.1), kcell hbw5 (hH0.2.2.1), kcell hbw5 (hH0.2.2.2.1), kcell hbw5 (hH0.2.2.2.2.1), kcell hbw5 (hH0.2.2.2.2.2.1), kcell hbw5 (hH0.2.2.2.2.2.2.1), kcell hbw5 (hH0.2.2.2.2.2.2.2.1), kcell hbw5 (hH0.2.2.2.2.2.2.2.2)⟩) (fun hH1 => ?_)
        clear hK hH0
        try simp only [Act.put, List.setIfInBounds_toArray, List.set_cons_zero, List.set_cons_succ]
        refine wpAnyH_ready (rs := [8]) (by kernel_rfl) (by simp) (AllReadyH.cons rfl (fun K hK => ?_) AllReadyH.nil)
        go_simp
        refine (C7 _).out.mono ?_; rintro e w6 ⟨rfl, hbw6⟩
        have HB6 : Hid (Below w.heap.size w w6) := Lib.hid (bseq (HB5.out) hbw6)
        refine hK.out _ _ (⟨kcell hbw6 (hH1.1), kcell hbw6 (hH1.2.1), kcell hbw6 (hH1.2.2.1), kcell hbw6 (hH1.2.2.2.1), kcell hbw6 (hH1.2.2.2.2.1), kcell hbw6 (hH1.2.2.2.2.2.1), kcell hbw6 (hH1.2.2.2.2.2.2.1), kcell hbw6 (hH1.2.2.2.2.2.2.2.1), kcell hbw6 (hH1.2.2.2.2.2.2.2.2)⟩) (fun hH2 => ?_)
        clear hK hH1
        try simp only [Act.put, List.setIfInBounds_toArray, List.set_cons_zero, List.set_cons_succ]
        refine take_first 9 (some 1) ?_ rfl rfl (by kernel_rfl) (by kernel_rfl) (by kernel_rfl) (fun _ _ _ h => h) rfl ?hy hH2 ?_
        case hy => (intro w0 hS0; (try dsimp only at hS0); (try go_simp); try with_reducible rfl)
        try simp only [Act.put, List.setIfInBounds_toArray, List.set_cons_zero, List.set_cons_succ]
        refine wpAnyH_done (by kernel_rfl) ?_ _
        obtain ⟨c0, c1, c2, c3, c4, c5, c6, c7, c8⟩ := hH2
        clear hbw5 hbw6
        go_wp2
        go_ret
        exact ⟨rfl, HB6.out⟩
    · have hR : sR = s3 := by rw [HR.out, if_neg e0, if_neg e2]
      subst hR
      have t0 : ((n0 : Int) == 0) = false := by rw [beq_eq_false_iff_ne]; omega
      have t4 : ((n0 : Int) == 4) = false := by rw [beq_eq_false_iff_ne]; omega
      have t2 : decide ((2 : Int) ≤ (n0 : Int)) = false := by simp; omega
      clear e0 e2
      go_wp2
      go_ret
      exact ⟨rfl, HB4.out⟩
theorem own_put {k : Nat} {L : List Nat} (e : En) (w : World) (hL : BL k L) (hk : k ≤ 100000) (hr : e.rightB = true) (hg : e.gen < 18446744073709551616) (hp : e.pos < 18446744073709551616) (htx : e.text.size ≤ 1000) :
    Calls Try.prog 12 #[ownV e, .string (strOf L)] w fun r w' => r = .returned (.string (strOf (L ++ putE e.clean))) ∧ Below w.heap.size w w' := by
  rw [← rput_eq hr]
  have ht : 0 ≤ e.thread ∧ e.thread ≤ 63 := by
    unfold En.rightB at hr
    simp only [Bool.and_eq_true, inB_true] at hr
    exact hr.1
  obtain ⟨th, pk, kd, tp, gk, gn, md, tx, ps⟩ := e
  unfold ownV
  dsimp only at ht hg hp htx ⊢
  obtain ⟨a, rfl⟩ : ∃ a : Nat, th = a := ⟨th.toNat, by omega⟩
  rw [Int.toNat_natCast]
  cases pk with
  | true => exact rput_pick a _ _ _ _ _ _ tx w hL hk (by omega)
  | false => exact rput_call a _ _ _ _ _ _ tx w hL hk (by omega) (u64N_lt _) (u64N_lt _) (u64N_lt _) hg (u64N_lt _) hp htx
end Go.Proofs.Ytgfingdopelinaa
