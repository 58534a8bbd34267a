/- gate: the steps of a Leave, and of a Least. (Printed by gengate.py.) -/
import Derived.Test.YtjmooohhndjmiaaGatJ
import Derived.Deep.LoopGhost
namespace Go.Proofs.Ytjmooohhndjmiaa
open Go.RowKit Go.Deep
set_option linter.unusedVariables false
set_option linter.unusedSimpArgs false

set_option maxHeartbeats 4000000 in
set_option maxRecDepth 100000 in
theorem leave0a (b bw bb bo A M C k wd v code : Nat) (ws : List Nat) (w : World) (hb : Blk w bo 88 (gCells A M C 1 k 0 wd v code)) (hm : MemAt w b bw bb ws) (hg : GOk A M C) (hk : k < M) (hl : A + 1 + M ≤ ws.length ∧ C < ws.length) (hn : bo ≠ b ∧ bo ≠ bw ∧ bo ≠ bb) (ht : (ws.getD A 0).testBit k = false) :
    Calls Try.prog 39 #[.pointer (some ⟨bo, 0, none⟩), .pointer (some ⟨b, 0, none⟩)] w fun e w' => e = .returned (.tuple #[]) ∧ Blk w' bo 88 (gCells A M C 1 k 6 (ws.getD A 0) 0 13) ∧ MemAt w' b bw bb ws ∧ Chg (fun j => j = b ∨ j = bw ∨ j = bo) w w' := by
  obtain ⟨x, hxx⟩ : ∃ x, ws.getD A 0 = x := ⟨_, rfl⟩
  have HXX := Lib.hid hxx
  have hxl := hm.getD_lt A
  rw [hxx] at hxl
  (try rw [hxx] at ht)
  (try rw [hxx])
  have HXL := Lib.hid hxl
  clear hxx hxl
  have HTB := Lib.hid ht
  clear ht
  obtain ⟨y0, y1, y2, y3, y4, y5, y6, y7, y8, y9⟩ := g_cells hb
  have z5 := hb.free 5
  have z6 := hb.free 6
  have z7 := hb.free 7
  have z8 := hb.free 8
  have HB0 := Lib.hid hb
  have HM0 := Lib.hid hm
  have HG := Lib.hid hg
  have HK := Lib.hid hk
  have hml := hm.most
  have HLT := Lib.hid hl
  have HN := Lib.hid hn
  have H1 := Lib.hid (show Blk w bo 88 (gCells A M C 1 k 0 wd v code) ∧ MemAt w b bw bb ws ∧ Chg (fun j => j = b ∨ j = bw ∨ j = bo) w w from ⟨hb, hm, Chg.refl _ _⟩)
  clear hb hm hg hn hl
  go_enter Try.func39, Try.ntmps39
  go_upto_region 5 with fail
  have hB3 : Blk (w.setCell ⟨bo, 6, none⟩ (.int .i64 1)) bo 88 (gCells A M C 1 k 1 wd v code) := (H1.out.1.set 6 (.int .i64 1))
  have hM3 := (H1.out.2.1.other ⟨bo, 6, none⟩ (.int .i64 1) (fun e => HN.out.1 e.symm) (fun e => HN.out.2.1 e.symm) (fun e => HN.out.2.2 e.symm))
  have hc3 := (H1.out.2.2.setCell ⟨bo, 6, none⟩ (.int .i64 1) (fun _ => .inr (.inr rfl)))
  generalize (w.setCell ⟨bo, 6, none⟩ (.int .i64 1)) = w2 at hB3 hM3 hc3 ⊢
  have H2 := Lib.hid (And.intro hB3 (And.intro hM3 hc3))
  clear hB3 hM3 hc3 y0 y1 y2 y3 y4 y5 y6 y7 y8 y9 z5 z6 z7 z8
  obtain ⟨y0, y1, y2, y3, y4, y5, y6, y7, y8, y9⟩ := g_cells H2.out.1
  have z5 := H2.out.1.free 5
  have z6 := H2.out.1.free 6
  have z7 := H2.out.1.free 7
  have z8 := H2.out.1.free 8
  have HL := Lib.hid (load_calls b bw bb ws A w2 H2.out.2.1 (by have := HLT.out; have := HK.out; omega))
  rw [HXX.out] at HL
  go_wp2_with fail
  refine HL.out.mono ?_; rintro e w3 ⟨rfl, hm2, hc2⟩
  have hB2 := H2.out.1.chg hc2 HN.out.1
  have H3 := Lib.hid (And.intro hB2 (And.intro hm2 (H2.out.2.2.trans hc2 (fun _ _ h => .inl h))))
  clear y0 y1 y2 y3 y4 y5 y6 y7 y8 y9 z5 z6 z7 z8 hB2 hm2 hc2 HL
  obtain ⟨y0, y1, y2, y3, y4, y5, y6, y7, y8, y9⟩ := g_cells H3.out.1
  have z5 := H3.out.1.free 5
  have z6 := H3.out.1.free 6
  have z7 := H3.out.1.free 7
  have z8 := H3.out.1.free 8
  go_upto_region 6 with fail
  have hB3 : Blk (w3.setCell ⟨bo, 7, none⟩ (.int .u64 (x : Nat))) bo 88 (gCells A M C 1 k 1 x v code) := (H3.out.1.set 7 (.int .u64 (x : Nat)))
  have hM3 := (H3.out.2.1.other ⟨bo, 7, none⟩ (.int .u64 (x : Nat)) (fun e => HN.out.1 e.symm) (fun e => HN.out.2.1 e.symm) (fun e => HN.out.2.2 e.symm))
  have hc3 := (H3.out.2.2.setCell ⟨bo, 7, none⟩ (.int .u64 (x : Nat)) (fun _ => .inr (.inr rfl)))
  generalize (w3.setCell ⟨bo, 7, none⟩ (.int .u64 (x : Nat))) = w4 at hB3 hM3 hc3 ⊢
  have H4 := Lib.hid (And.intro hB3 (And.intro hM3 hc3))
  clear hB3 hM3 hc3 y0 y1 y2 y3 y4 y5 y6 y7 y8 y9 z5 z6 z7 z8
  obtain ⟨y0, y1, y2, y3, y4, y5, y6, y7, y8, y9⟩ := g_cells H4.out.1
  have z5 := H4.out.1.free 5
  have z6 := H4.out.1.free 6
  have z7 := H4.out.1.free 7
  have z8 := H4.out.1.free 8
  have HI := Lib.hid (gin_calls bo A M C 1 k 1 x v code x w4 H4.out.1 (by have := HK.out; have := HG.out.m8; omega) HXL.out)
  rw [HTB.out] at HI
  go_wp2_with fail
  refine HI.out.mono ?_; rintro e w' ⟨rfl, rfl⟩
  have HE := Lib.hid (gend_calls bo A M C 1 k 1 x v code 13 0 w4 H4.out.1)
  go_wp2_with fail
  refine HE.out.mono ?_; rintro e w5 ⟨rfl, hB4, hc4⟩
  have HF := Lib.hid (And.intro hB4 (And.intro (H4.out.2.1.chg hc4 (fun e => HN.out.1 e.symm) (fun e => HN.out.2.1 e.symm) (fun e => HN.out.2.2 e.symm)) (H4.out.2.2.trans hc4 (fun _ _ h => .inr (.inr h)))))
  clear hB4 hc4
  go_wp2
  go_end0
  exact ⟨rfl, HF.out⟩

set_option maxHeartbeats 4000000 in
set_option maxRecDepth 100000 in
theorem leave0b (b bw bb bo A M C k wd v code : Nat) (ws : List Nat) (w : World) (hb : Blk w bo 88 (gCells A M C 1 k 0 wd v code)) (hm : MemAt w b bw bb ws) (hg : GOk A M C) (hk : k < M) (hl : A + 1 + M ≤ ws.length ∧ C < ws.length) (hn : bo ≠ b ∧ bo ≠ bw ∧ bo ≠ bb) (ht : (ws.getD A 0).testBit k = true) :
    Calls Try.prog 39 #[.pointer (some ⟨bo, 0, none⟩), .pointer (some ⟨b, 0, none⟩)] w fun e w' => e = .returned (.tuple #[]) ∧ Blk w' bo 88 (gCells A M C 1 k 1 (ws.getD A 0) v code) ∧ MemAt w' b bw bb ws ∧ Chg (fun j => j = b ∨ j = bw ∨ j = bo) w w' := by
  obtain ⟨x, hxx⟩ : ∃ x, ws.getD A 0 = x := ⟨_, rfl⟩
  have HXX := Lib.hid hxx
  have hxl := hm.getD_lt A
  rw [hxx] at hxl
  (try rw [hxx] at ht)
  (try rw [hxx])
  have HXL := Lib.hid hxl
  clear hxx hxl
  have HTB := Lib.hid ht
  clear ht
  obtain ⟨y0, y1, y2, y3, y4, y5, y6, y7, y8, y9⟩ := g_cells hb
  have z5 := hb.free 5
  have z6 := hb.free 6
  have z7 := hb.free 7
  have z8 := hb.free 8
  have HB0 := Lib.hid hb
  have HM0 := Lib.hid hm
  have HG := Lib.hid hg
  have HK := Lib.hid hk
  have hml := hm.most
  have HLT := Lib.hid hl
  have HN := Lib.hid hn
  have H1 := Lib.hid (show Blk w bo 88 (gCells A M C 1 k 0 wd v code) ∧ MemAt w b bw bb ws ∧ Chg (fun j => j = b ∨ j = bw ∨ j = bo) w w from ⟨hb, hm, Chg.refl _ _⟩)
  clear hb hm hg hn hl
  go_enter Try.func39, Try.ntmps39
  go_upto_region 5 with fail
  have hB3 : Blk (w.setCell ⟨bo, 6, none⟩ (.int .i64 1)) bo 88 (gCells A M C 1 k 1 wd v code) := (H1.out.1.set 6 (.int .i64 1))
  have hM3 := (H1.out.2.1.other ⟨bo, 6, none⟩ (.int .i64 1) (fun e => HN.out.1 e.symm) (fun e => HN.out.2.1 e.symm) (fun e => HN.out.2.2 e.symm))
  have hc3 := (H1.out.2.2.setCell ⟨bo, 6, none⟩ (.int .i64 1) (fun _ => .inr (.inr rfl)))
  generalize (w.setCell ⟨bo, 6, none⟩ (.int .i64 1)) = w2 at hB3 hM3 hc3 ⊢
  have H2 := Lib.hid (And.intro hB3 (And.intro hM3 hc3))
  clear hB3 hM3 hc3 y0 y1 y2 y3 y4 y5 y6 y7 y8 y9 z5 z6 z7 z8
  obtain ⟨y0, y1, y2, y3, y4, y5, y6, y7, y8, y9⟩ := g_cells H2.out.1
  have z5 := H2.out.1.free 5
  have z6 := H2.out.1.free 6
  have z7 := H2.out.1.free 7
  have z8 := H2.out.1.free 8
  have HL := Lib.hid (load_calls b bw bb ws A w2 H2.out.2.1 (by have := HLT.out; have := HK.out; omega))
  rw [HXX.out] at HL
  go_wp2_with fail
  refine HL.out.mono ?_; rintro e w3 ⟨rfl, hm2, hc2⟩
  have hB2 := H2.out.1.chg hc2 HN.out.1
  have H3 := Lib.hid (And.intro hB2 (And.intro hm2 (H2.out.2.2.trans hc2 (fun _ _ h => .inl h))))
  clear y0 y1 y2 y3 y4 y5 y6 y7 y8 y9 z5 z6 z7 z8 hB2 hm2 hc2 HL
  obtain ⟨y0, y1, y2, y3, y4, y5, y6, y7, y8, y9⟩ := g_cells H3.out.1
  have z5 := H3.out.1.free 5
  have z6 := H3.out.1.free 6
  have z7 := H3.out.1.free 7
  have z8 := H3.out.1.free 8
  go_upto_region 6 with fail
  have hB3 : Blk (w3.setCell ⟨bo, 7, none⟩ (.int .u64 (x : Nat))) bo 88 (gCells A M C 1 k 1 x v code) := (H3.out.1.set 7 (.int .u64 (x : Nat)))
  have hM3 := (H3.out.2.1.other ⟨bo, 7, none⟩ (.int .u64 (x : Nat)) (fun e => HN.out.1 e.symm) (fun e => HN.out.2.1 e.symm) (fun e => HN.out.2.2 e.symm))
  have hc3 := (H3.out.2.2.setCell ⟨bo, 7, none⟩ (.int .u64 (x : Nat)) (fun _ => .inr (.inr rfl)))
  generalize (w3.setCell ⟨bo, 7, none⟩ (.int .u64 (x : Nat))) = w4 at hB3 hM3 hc3 ⊢
  have H4 := Lib.hid (And.intro hB3 (And.intro hM3 hc3))
  clear hB3 hM3 hc3 y0 y1 y2 y3 y4 y5 y6 y7 y8 y9 z5 z6 z7 z8
  obtain ⟨y0, y1, y2, y3, y4, y5, y6, y7, y8, y9⟩ := g_cells H4.out.1
  have z5 := H4.out.1.free 5
  have z6 := H4.out.1.free 6
  have z7 := H4.out.1.free 7
  have z8 := H4.out.1.free 8
  have HI := Lib.hid (gin_calls bo A M C 1 k 1 x v code x w4 H4.out.1 (by have := HK.out; have := HG.out.m8; omega) HXL.out)
  rw [HTB.out] at HI
  go_wp2_with fail
  refine HI.out.mono ?_; rintro e w' ⟨rfl, rfl⟩
  have HF := Lib.hid H4.out
  go_wp2
  go_end0
  exact ⟨rfl, HF.out⟩

set_option maxHeartbeats 4000000 in
set_option maxRecDepth 100000 in
theorem leave1a (b bw bb bo A M C k wd v code : Nat) (ws : List Nat) (w : World) (hb : Blk w bo 88 (gCells A M C 1 k 1 wd v code)) (hm : MemAt w b bw bb ws) (hg : GOk A M C) (hk : k < M) (hl : A + 1 + M ≤ ws.length ∧ C < ws.length) (hn : bo ≠ b ∧ bo ≠ bw ∧ bo ≠ bb) (hwl : wd < 18446744073709551616) (he : ws.getD A 0 = wd) :
    Calls Try.prog 39 #[.pointer (some ⟨bo, 0, none⟩), .pointer (some ⟨b, 0, none⟩)] w fun e w' => e = .returned (.tuple #[]) ∧ Blk w' bo 88 (gCells A M C 1 k 6 wd 0 0) ∧ MemAt w' b bw bb (ws.set A (wd &&& (18446744073709551615 - 2 ^ k))) ∧ Chg (fun j => j = b ∨ j = bw ∨ j = bo) w w' := by
  have h2k : 2 ^ k < 18446744073709551616 := Nat.pow_lt_pow_right (by decide) (show k < 64 by have := hg.m8; omega)
  have hbit : ∀ W, Blk W bo 88 (gCells A M C 1 k 0 wd v code) → Calls Try.prog 58 #[.pointer (some ⟨bo, 0, none⟩)] W fun e w' => e = .returned (.int .u64 (2 ^ k : Nat)) ∧ W = w' := fun W h => gbit_calls bo A M C 1 k 0 wd v code W h (by have := hg.m8; omega)
  obtain ⟨p, hp⟩ : ∃ p, 2 ^ k = p := ⟨_, rfl⟩
  rw [hp] at h2k hbit ⊢
  have HBIT := Lib.hid hbit
  have hand := u64_andNot_nat wd p hwl h2k
  obtain ⟨y, hy⟩ : ∃ y, wd &&& (18446744073709551615 - p) = y := ⟨_, rfl⟩
  have hyl : y < 18446744073709551616 := by rw [← hy]; exact Nat.lt_of_le_of_lt Nat.and_le_left hwl
  rw [hy] at hand ⊢
  have HYL := Lib.hid hyl
  have HEQ := Lib.hid he
  have HE0 : Hid (decide (ws.getD A 0 = wd) = true) := Lib.hid (decide_eq_true he)
  clear h2k hp hbit hy hyl hwl he
  obtain ⟨y0, y1, y2, y3, y4, y5, y6, y7, y8, y9⟩ := g_cells hb
  have z5 := hb.free 5
  have z6 := hb.free 6
  have z7 := hb.free 7
  have z8 := hb.free 8
  have HB0 := Lib.hid hb
  have HM0 := Lib.hid hm
  have HG := Lib.hid hg
  have HK := Lib.hid hk
  have hml := hm.most
  have HLT := Lib.hid hl
  have HN := Lib.hid hn
  have H1 := Lib.hid (show Blk w bo 88 (gCells A M C 1 k 1 wd v code) ∧ MemAt w b bw bb ws ∧ Chg (fun j => j = b ∨ j = bw ∨ j = bo) w w from ⟨hb, hm, Chg.refl _ _⟩)
  clear hb hm hg hn hl
  go_enter Try.func39, Try.ntmps39
  go_upto_region 2 with fail
  have hB3 : Blk (w.setCell ⟨bo, 6, none⟩ (.int .i64 0)) bo 88 (gCells A M C 1 k 0 wd v code) := (H1.out.1.set 6 (.int .i64 0))
  have hM3 := (H1.out.2.1.other ⟨bo, 6, none⟩ (.int .i64 0) (fun e => HN.out.1 e.symm) (fun e => HN.out.2.1 e.symm) (fun e => HN.out.2.2 e.symm))
  have hc3 := (H1.out.2.2.setCell ⟨bo, 6, none⟩ (.int .i64 0) (fun _ => .inr (.inr rfl)))
  generalize (w.setCell ⟨bo, 6, none⟩ (.int .i64 0)) = w2 at hB3 hM3 hc3 ⊢
  have H2 := Lib.hid (And.intro hB3 (And.intro hM3 hc3))
  clear hB3 hM3 hc3 y0 y1 y2 y3 y4 y5 y6 y7 y8 y9 z5 z6 z7 z8
  obtain ⟨y0, y1, y2, y3, y4, y5, y6, y7, y8, y9⟩ := g_cells H2.out.1
  have z5 := H2.out.1.free 5
  have z6 := H2.out.1.free 6
  have z7 := H2.out.1.free 7
  have z8 := H2.out.1.free 8
  refine wp_region_held_drew (S := (fun w' => w'.cell? ⟨bo, 1, none⟩ = some (.int .i64 A) ∧ w'.cell? ⟨bo, 7, none⟩ = some (.int .u64 wd))) (by kernel_rfl) (⟨y1, y7⟩) (fun hH0 => ?_)
  refine take_first 0 (some 12) ?_ rfl rfl (by kernel_rfl) (by kernel_rfl) (by kernel_rfl) (fun _ _ _ h => h) rfl ?hy hH0 ?_
  case hy => (intro w0 hS0; (try dsimp only at hS0); (try go_simp); try with_reducible rfl)
  try simp only [Act.put, List.setIfInBounds_toArray, List.set_cons_zero, List.set_cons_succ]
  refine take_first 1 (some 13) ?_ rfl rfl (by kernel_rfl) (by kernel_rfl) (by kernel_rfl) (fun _ _ _ h => h) rfl ?hy hH0 ?_
  case hy => (intro w0 hS0; (try dsimp only at hS0); (try go_simp); try with_reducible rfl)
  try simp only [Act.put, List.setIfInBounds_toArray, List.set_cons_zero, List.set_cons_succ]
  refine take_first 2 (some 14) ?_ rfl rfl (by kernel_rfl) (by kernel_rfl) (by kernel_rfl) (fun _ _ _ h => h) rfl ?hy hH0 ?_
  case hy => (intro w0 hS0; (try dsimp only at hS0); (try go_simp); try with_reducible rfl)
  try simp only [Act.put, List.setIfInBounds_toArray, List.set_cons_zero, List.set_cons_succ]
  refine take_first 3 (some 15) ?_ rfl rfl (by kernel_rfl) (by kernel_rfl) (by kernel_rfl) (fun _ _ _ h => h) rfl ?hy hH0 ?_
  case hy => (intro w0 hS0; (try dsimp only at hS0); (try go_simp); try with_reducible rfl)
  try simp only [Act.put, List.setIfInBounds_toArray, List.set_cons_zero, List.set_cons_succ]
  refine take_first 4 (some 16) ?_ rfl rfl (by kernel_rfl) (by kernel_rfl) (by kernel_rfl) (fun _ _ _ h => h) rfl ?hy hH0 ?_
  case hy => (intro w0 hS0; (try dsimp only at hS0); (try go_simp); try with_reducible rfl)
  try simp only [Act.put, List.setIfInBounds_toArray, List.set_cons_zero, List.set_cons_succ]
  refine take_first 5 (some 17) ?_ rfl rfl (by kernel_rfl) (by kernel_rfl) (by kernel_rfl) (fun _ _ _ h => h) rfl ?hy hH0 ?_
  case hy => (intro w0 hS0; (try dsimp only at hS0); (try go_simp); try with_reducible rfl)
  try simp only [Act.put, List.setIfInBounds_toArray, List.set_cons_zero, List.set_cons_succ]
  refine take_first 6 (some 18) ?_ rfl rfl (by kernel_rfl) (by kernel_rfl) (by kernel_rfl) (fun _ _ _ h => h) rfl ?hy hH0 ?_
  case hy => (intro w0 hS0; (try dsimp only at hS0); (try go_simp); try with_reducible rfl)
  try simp only [Act.put, List.setIfInBounds_toArray, List.set_cons_zero, List.set_cons_succ]
  refine take_first 7 (some 19) ?_ rfl rfl (by kernel_rfl) (by kernel_rfl) (by kernel_rfl) (fun _ _ _ h => h) rfl ?hy hH0 ?_
  case hy => (intro w0 hS0; (try dsimp only at hS0); (try go_simp); try with_reducible rfl)
  try simp only [Act.put, List.setIfInBounds_toArray, List.set_cons_zero, List.set_cons_succ]
  refine take_first 8 (some 20) ?_ rfl rfl (by kernel_rfl) (by kernel_rfl) (by kernel_rfl) (fun _ _ _ h => h) rfl ?hy hH0 ?_
  case hy => (intro w0 hS0; (try dsimp only at hS0); (try go_simp); try with_reducible rfl)
  try simp only [Act.put, List.setIfInBounds_toArray, List.set_cons_zero, List.set_cons_succ]
  refine take_first 9 (some 21) ?_ rfl rfl (by kernel_rfl) (by kernel_rfl) (by kernel_rfl) (fun _ _ _ h => h) rfl ?hy hH0 ?_
  case hy => (intro w0 hS0; (try dsimp only at hS0); (try go_simp); try with_reducible rfl)
  try simp only [Act.put, List.setIfInBounds_toArray, List.set_cons_zero, List.set_cons_succ]
  refine take_first 10 (some 22) ?_ rfl rfl (by kernel_rfl) (by kernel_rfl) (by kernel_rfl) (fun _ _ _ h => h) rfl ?hy hH0 ?_
  case hy => (intro w0 hS0; (try dsimp only at hS0); (try go_simp); try with_reducible rfl)
  try simp only [Act.put, List.setIfInBounds_toArray, List.set_cons_zero, List.set_cons_succ]
  refine take_first 11 (some 23) ?_ rfl rfl (by kernel_rfl) (by kernel_rfl) (by kernel_rfl) (fun _ _ _ h => h) rfl ?hy hH0 ?_
  case hy => (intro w0 hS0; (try dsimp only at hS0); (try go_simp); try with_reducible rfl)
  try simp only [Act.put, List.setIfInBounds_toArray, List.set_cons_zero, List.set_cons_succ]
  refine take_first 12 (some 24) ?_ rfl rfl (by kernel_rfl) (by kernel_rfl) (by kernel_rfl) (fun _ _ _ h => h) rfl ?hy hH0 ?_
  case hy => (intro w0 hS0; (try dsimp only at hS0); (try go_simp); try with_reducible rfl)
  try simp only [Act.put, List.setIfInBounds_toArray, List.set_cons_zero, List.set_cons_succ]
  refine take_first 13 (some 25) ?_ rfl rfl (by kernel_rfl) (by kernel_rfl) (by kernel_rfl) (fun _ _ _ h => h) rfl ?hy hH0 ?_
  case hy => (intro w0 hS0; (try dsimp only at hS0); (try go_simp); try with_reducible rfl)
  try simp only [Act.put, List.setIfInBounds_toArray, List.set_cons_zero, List.set_cons_succ]
  refine take_first 14 (some 26) ?_ rfl rfl (by kernel_rfl) (by kernel_rfl) (by kernel_rfl) (fun _ _ _ h => h) rfl ?hy hH0 ?_
  case hy => (intro w0 hS0; (try dsimp only at hS0); (try go_simp); try with_reducible rfl)
  try simp only [Act.put, List.setIfInBounds_toArray, List.set_cons_zero, List.set_cons_succ]
  refine wpAnyH_ready (rs := [15]) (by kernel_rfl) (by simp) (AllReadyH.cons rfl (fun K hK => ?_) AllReadyH.nil)
  go_simp
  refine (HBIT.out w2.drew H2.out.1.drew).mono ?_; rintro e w' ⟨rfl, rfl⟩
  refine hK.out _ _ (⟨y1, y7⟩) (fun hH1 => ?_)
  clear hK
  try simp only [Act.put, List.setIfInBounds_toArray, List.set_cons_zero, List.set_cons_succ]
  refine take_first 16 (some 28) (.int .u64 (y : Nat)) rfl rfl (by kernel_rfl) (by kernel_rfl) (by kernel_rfl) (fun _ _ _ h => h) rfl (by intro w0 hS0; (try dsimp only at hS0); go_simp) hH1 ?_
  try simp only [Act.put, List.setIfInBounds_toArray, List.set_cons_zero, List.set_cons_succ]
  refine wpAnyH_ready (rs := [17]) (by kernel_rfl) (by simp) (AllReadyH.cons rfl (fun K hK => ?_) AllReadyH.nil)
  go_simp
  have HSW := Lib.hid (swap_calls b bw bb ws A wd y w2.drew H2.out.2.1.drew (by have := HLT.out; omega) HYL.out)
  rw [HE0.out] at HSW
  refine HSW.out.mono ?_; rintro e w3 ⟨rfl, hm3, hc3⟩
  have hB3 := H2.out.1.drew.chg hc3 (fun h => h.elim HN.out.1 HN.out.2.1)
  rw [if_pos HEQ.out] at hm3
  have H3 := Lib.hid (And.intro hB3 (And.intro hm3 (H2.out.2.2.drew.trans hc3 (fun _ _ h => h.elim .inl (fun h => .inr (.inl h))))))
  have hA2 : w3.cell? ⟨bo, 1, none⟩ = some (.int .i64 A) ∧ w3.cell? ⟨bo, 7, none⟩ = some (.int .u64 wd) := ⟨(g_cells hB3).2.1, (g_cells hB3).2.2.2.2.2.2.2.1⟩
  clear hB3 hm3 hc3
  refine hK.out _ _ (hA2) (fun hH2 => ?_)
  clear hK
  clear hH1
  try simp only [Act.put, List.setIfInBounds_toArray, List.set_cons_zero, List.set_cons_succ]
  refine wpAnyH_done (by kernel_rfl) ?_ _
  clear y0 y1 y2 y3 y4 y5 y6 y7 y8 y9 z5 z6 z7 z8 hA2 hH0 hH2
  obtain ⟨y0, y1, y2, y3, y4, y5, y6, y7, y8, y9⟩ := g_cells H3.out.1
  have z5 := H3.out.1.free 5
  have z6 := H3.out.1.free 6
  have z7 := H3.out.1.free 7
  have z8 := H3.out.1.free 8
  have HE := Lib.hid (gend_calls bo A M C 1 k 0 wd v code 0 0 w3 H3.out.1)
  go_wp2_with fail
  refine HE.out.mono ?_; rintro e w5 ⟨rfl, hB4, hc4⟩
  have HF := Lib.hid (And.intro hB4 (And.intro (H3.out.2.1.chg hc4 (fun e => HN.out.1 e.symm) (fun e => HN.out.2.1 e.symm) (fun e => HN.out.2.2 e.symm)) (H3.out.2.2.trans hc4 (fun _ _ h => .inr (.inr h)))))
  clear hB4 hc4
  go_wp2
  exact bodyPost_ret (v := .tuple #[]) (by simp [results, Try.results39, go_sem]) rfl ⟨rfl, HF.out⟩

set_option maxHeartbeats 4000000 in
set_option maxRecDepth 100000 in
theorem leave1b (b bw bb bo A M C k wd v code : Nat) (ws : List Nat) (w : World) (hb : Blk w bo 88 (gCells A M C 1 k 1 wd v code)) (hm : MemAt w b bw bb ws) (hg : GOk A M C) (hk : k < M) (hl : A + 1 + M ≤ ws.length ∧ C < ws.length) (hn : bo ≠ b ∧ bo ≠ bw ∧ bo ≠ bb) (hwl : wd < 18446744073709551616) (he : ¬ ws.getD A 0 = wd) :
    Calls Try.prog 39 #[.pointer (some ⟨bo, 0, none⟩), .pointer (some ⟨b, 0, none⟩)] w fun e w' => e = .returned (.tuple #[]) ∧ Blk w' bo 88 (gCells A M C 1 k 0 wd v code) ∧ MemAt w' b bw bb ws ∧ Chg (fun j => j = b ∨ j = bw ∨ j = bo) w w' := by
  have h2k : 2 ^ k < 18446744073709551616 := Nat.pow_lt_pow_right (by decide) (show k < 64 by have := hg.m8; omega)
  have hbit : ∀ W, Blk W bo 88 (gCells A M C 1 k 0 wd v code) → Calls Try.prog 58 #[.pointer (some ⟨bo, 0, none⟩)] W fun e w' => e = .returned (.int .u64 (2 ^ k : Nat)) ∧ W = w' := fun W h => gbit_calls bo A M C 1 k 0 wd v code W h (by have := hg.m8; omega)
  obtain ⟨p, hp⟩ : ∃ p, 2 ^ k = p := ⟨_, rfl⟩
  rw [hp] at h2k hbit
  have HBIT := Lib.hid hbit
  have hand := u64_andNot_nat wd p hwl h2k
  obtain ⟨y, hy⟩ : ∃ y, wd &&& (18446744073709551615 - p) = y := ⟨_, rfl⟩
  have hyl : y < 18446744073709551616 := by rw [← hy]; exact Nat.lt_of_le_of_lt Nat.and_le_left hwl
  rw [hy] at hand
  have HYL := Lib.hid hyl
  have HEQ := Lib.hid he
  have HE0 : Hid (decide (ws.getD A 0 = wd) = false) := Lib.hid (decide_eq_false he)
  clear h2k hp hbit hy hyl hwl he
  obtain ⟨y0, y1, y2, y3, y4, y5, y6, y7, y8, y9⟩ := g_cells hb
  have z5 := hb.free 5
  have z6 := hb.free 6
  have z7 := hb.free 7
  have z8 := hb.free 8
  have HB0 := Lib.hid hb
  have HM0 := Lib.hid hm
  have HG := Lib.hid hg
  have HK := Lib.hid hk
  have hml := hm.most
  have HLT := Lib.hid hl
  have HN := Lib.hid hn
  have H1 := Lib.hid (show Blk w bo 88 (gCells A M C 1 k 1 wd v code) ∧ MemAt w b bw bb ws ∧ Chg (fun j => j = b ∨ j = bw ∨ j = bo) w w from ⟨hb, hm, Chg.refl _ _⟩)
  clear hb hm hg hn hl
  go_enter Try.func39, Try.ntmps39
  go_upto_region 2 with fail
  have hB3 : Blk (w.setCell ⟨bo, 6, none⟩ (.int .i64 0)) bo 88 (gCells A M C 1 k 0 wd v code) := (H1.out.1.set 6 (.int .i64 0))
  have hM3 := (H1.out.2.1.other ⟨bo, 6, none⟩ (.int .i64 0) (fun e => HN.out.1 e.symm) (fun e => HN.out.2.1 e.symm) (fun e => HN.out.2.2 e.symm))
  have hc3 := (H1.out.2.2.setCell ⟨bo, 6, none⟩ (.int .i64 0) (fun _ => .inr (.inr rfl)))
  generalize (w.setCell ⟨bo, 6, none⟩ (.int .i64 0)) = w2 at hB3 hM3 hc3 ⊢
  have H2 := Lib.hid (And.intro hB3 (And.intro hM3 hc3))
  clear hB3 hM3 hc3 y0 y1 y2 y3 y4 y5 y6 y7 y8 y9 z5 z6 z7 z8
  obtain ⟨y0, y1, y2, y3, y4, y5, y6, y7, y8, y9⟩ := g_cells H2.out.1
  have z5 := H2.out.1.free 5
  have z6 := H2.out.1.free 6
  have z7 := H2.out.1.free 7
  have z8 := H2.out.1.free 8
  refine wp_region_held_drew (S := (fun w' => w'.cell? ⟨bo, 1, none⟩ = some (.int .i64 A) ∧ w'.cell? ⟨bo, 7, none⟩ = some (.int .u64 wd))) (by kernel_rfl) (⟨y1, y7⟩) (fun hH0 => ?_)
  refine take_first 0 (some 12) ?_ rfl rfl (by kernel_rfl) (by kernel_rfl) (by kernel_rfl) (fun _ _ _ h => h) rfl ?hy hH0 ?_
  case hy => (intro w0 hS0; (try dsimp only at hS0); (try go_simp); try with_reducible rfl)
  try simp only [Act.put, List.setIfInBounds_toArray, List.set_cons_zero, List.set_cons_succ]
  refine take_first 1 (some 13) ?_ rfl rfl (by kernel_rfl) (by kernel_rfl) (by kernel_rfl) (fun _ _ _ h => h) rfl ?hy hH0 ?_
  case hy => (intro w0 hS0; (try dsimp only at hS0); (try go_simp); try with_reducible rfl)
  try simp only [Act.put, List.setIfInBounds_toArray, List.set_cons_zero, List.set_cons_succ]
  refine take_first 2 (some 14) ?_ rfl rfl (by kernel_rfl) (by kernel_rfl) (by kernel_rfl) (fun _ _ _ h => h) rfl ?hy hH0 ?_
  case hy => (intro w0 hS0; (try dsimp only at hS0); (try go_simp); try with_reducible rfl)
  try simp only [Act.put, List.setIfInBounds_toArray, List.set_cons_zero, List.set_cons_succ]
  refine take_first 3 (some 15) ?_ rfl rfl (by kernel_rfl) (by kernel_rfl) (by kernel_rfl) (fun _ _ _ h => h) rfl ?hy hH0 ?_
  case hy => (intro w0 hS0; (try dsimp only at hS0); (try go_simp); try with_reducible rfl)
  try simp only [Act.put, List.setIfInBounds_toArray, List.set_cons_zero, List.set_cons_succ]
  refine take_first 4 (some 16) ?_ rfl rfl (by kernel_rfl) (by kernel_rfl) (by kernel_rfl) (fun _ _ _ h => h) rfl ?hy hH0 ?_
  case hy => (intro w0 hS0; (try dsimp only at hS0); (try go_simp); try with_reducible rfl)
  try simp only [Act.put, List.setIfInBounds_toArray, List.set_cons_zero, List.set_cons_succ]
  refine take_first 5 (some 17) ?_ rfl rfl (by kernel_rfl) (by kernel_rfl) (by kernel_rfl) (fun _ _ _ h => h) rfl ?hy hH0 ?_
  case hy => (intro w0 hS0; (try dsimp only at hS0); (try go_simp); try with_reducible rfl)
  try simp only [Act.put, List.setIfInBounds_toArray, List.set_cons_zero, List.set_cons_succ]
  refine take_first 6 (some 18) ?_ rfl rfl (by kernel_rfl) (by kernel_rfl) (by kernel_rfl) (fun _ _ _ h => h) rfl ?hy hH0 ?_
  case hy => (intro w0 hS0; (try dsimp only at hS0); (try go_simp); try with_reducible rfl)
  try simp only [Act.put, List.setIfInBounds_toArray, List.set_cons_zero, List.set_cons_succ]
  refine take_first 7 (some 19) ?_ rfl rfl (by kernel_rfl) (by kernel_rfl) (by kernel_rfl) (fun _ _ _ h => h) rfl ?hy hH0 ?_
  case hy => (intro w0 hS0; (try dsimp only at hS0); (try go_simp); try with_reducible rfl)
  try simp only [Act.put, List.setIfInBounds_toArray, List.set_cons_zero, List.set_cons_succ]
  refine take_first 8 (some 20) ?_ rfl rfl (by kernel_rfl) (by kernel_rfl) (by kernel_rfl) (fun _ _ _ h => h) rfl ?hy hH0 ?_
  case hy => (intro w0 hS0; (try dsimp only at hS0); (try go_simp); try with_reducible rfl)
  try simp only [Act.put, List.setIfInBounds_toArray, List.set_cons_zero, List.set_cons_succ]
  refine take_first 9 (some 21) ?_ rfl rfl (by kernel_rfl) (by kernel_rfl) (by kernel_rfl) (fun _ _ _ h => h) rfl ?hy hH0 ?_
  case hy => (intro w0 hS0; (try dsimp only at hS0); (try go_simp); try with_reducible rfl)
  try simp only [Act.put, List.setIfInBounds_toArray, List.set_cons_zero, List.set_cons_succ]
  refine take_first 10 (some 22) ?_ rfl rfl (by kernel_rfl) (by kernel_rfl) (by kernel_rfl) (fun _ _ _ h => h) rfl ?hy hH0 ?_
  case hy => (intro w0 hS0; (try dsimp only at hS0); (try go_simp); try with_reducible rfl)
  try simp only [Act.put, List.setIfInBounds_toArray, List.set_cons_zero, List.set_cons_succ]
  refine take_first 11 (some 23) ?_ rfl rfl (by kernel_rfl) (by kernel_rfl) (by kernel_rfl) (fun _ _ _ h => h) rfl ?hy hH0 ?_
  case hy => (intro w0 hS0; (try dsimp only at hS0); (try go_simp); try with_reducible rfl)
  try simp only [Act.put, List.setIfInBounds_toArray, List.set_cons_zero, List.set_cons_succ]
  refine take_first 12 (some 24) ?_ rfl rfl (by kernel_rfl) (by kernel_rfl) (by kernel_rfl) (fun _ _ _ h => h) rfl ?hy hH0 ?_
  case hy => (intro w0 hS0; (try dsimp only at hS0); (try go_simp); try with_reducible rfl)
  try simp only [Act.put, List.setIfInBounds_toArray, List.set_cons_zero, List.set_cons_succ]
  refine take_first 13 (some 25) ?_ rfl rfl (by kernel_rfl) (by kernel_rfl) (by kernel_rfl) (fun _ _ _ h => h) rfl ?hy hH0 ?_
  case hy => (intro w0 hS0; (try dsimp only at hS0); (try go_simp); try with_reducible rfl)
  try simp only [Act.put, List.setIfInBounds_toArray, List.set_cons_zero, List.set_cons_succ]
  refine take_first 14 (some 26) ?_ rfl rfl (by kernel_rfl) (by kernel_rfl) (by kernel_rfl) (fun _ _ _ h => h) rfl ?hy hH0 ?_
  case hy => (intro w0 hS0; (try dsimp only at hS0); (try go_simp); try with_reducible rfl)
  try simp only [Act.put, List.setIfInBounds_toArray, List.set_cons_zero, List.set_cons_succ]
  refine wpAnyH_ready (rs := [15]) (by kernel_rfl) (by simp) (AllReadyH.cons rfl (fun K hK => ?_) AllReadyH.nil)
  go_simp
  refine (HBIT.out w2.drew H2.out.1.drew).mono ?_; rintro e w' ⟨rfl, rfl⟩
  refine hK.out _ _ (⟨y1, y7⟩) (fun hH1 => ?_)
  clear hK
  try simp only [Act.put, List.setIfInBounds_toArray, List.set_cons_zero, List.set_cons_succ]
  refine take_first 16 (some 28) (.int .u64 (y : Nat)) rfl rfl (by kernel_rfl) (by kernel_rfl) (by kernel_rfl) (fun _ _ _ h => h) rfl (by intro w0 hS0; (try dsimp only at hS0); go_simp) hH1 ?_
  try simp only [Act.put, List.setIfInBounds_toArray, List.set_cons_zero, List.set_cons_succ]
  refine wpAnyH_ready (rs := [17]) (by kernel_rfl) (by simp) (AllReadyH.cons rfl (fun K hK => ?_) AllReadyH.nil)
  go_simp
  have HSW := Lib.hid (swap_calls b bw bb ws A wd y w2.drew H2.out.2.1.drew (by have := HLT.out; omega) HYL.out)
  rw [HE0.out] at HSW
  refine HSW.out.mono ?_; rintro e w3 ⟨rfl, hm3, hc3⟩
  have hB3 := H2.out.1.drew.chg hc3 (fun h => h.elim HN.out.1 HN.out.2.1)
  rw [if_neg HEQ.out] at hm3
  have H3 := Lib.hid (And.intro hB3 (And.intro hm3 (H2.out.2.2.drew.trans hc3 (fun _ _ h => h.elim .inl (fun h => .inr (.inl h))))))
  have hA2 : w3.cell? ⟨bo, 1, none⟩ = some (.int .i64 A) ∧ w3.cell? ⟨bo, 7, none⟩ = some (.int .u64 wd) := ⟨(g_cells hB3).2.1, (g_cells hB3).2.2.2.2.2.2.2.1⟩
  clear hB3 hm3 hc3
  refine hK.out _ _ (hA2) (fun hH2 => ?_)
  clear hK
  clear hH1
  try simp only [Act.put, List.setIfInBounds_toArray, List.set_cons_zero, List.set_cons_succ]
  refine wpAnyH_done (by kernel_rfl) ?_ _
  clear y0 y1 y2 y3 y4 y5 y6 y7 y8 y9 z5 z6 z7 z8 hA2 hH0 hH2
  obtain ⟨y0, y1, y2, y3, y4, y5, y6, y7, y8, y9⟩ := g_cells H3.out.1
  have z5 := H3.out.1.free 5
  have z6 := H3.out.1.free 6
  have z7 := H3.out.1.free 7
  have z8 := H3.out.1.free 8
  have HF := Lib.hid H3.out
  go_wp2
  exact bodyPost_ret (v := .tuple #[]) (by simp [results, Try.results39, go_sem]) rfl ⟨rfl, HF.out⟩

end Go.Proofs.Ytjmooohhndjmiaa
