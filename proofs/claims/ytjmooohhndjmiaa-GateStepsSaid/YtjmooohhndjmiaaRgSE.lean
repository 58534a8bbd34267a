/- the reference's gate (sluicewayref19): Step, cases. (Printed by genrgs.py.) -/
import Derived.Test.YtjmooohhndjmiaaRgS
namespace Go.Proofs.Ytjmooohhndjmiaa
open Go.RowKit Go.Deep
set_option linter.unusedVariables false
set_option linter.unusedSimpArgs false

set_option maxHeartbeats 8000000 in
set_option maxRecDepth 100000 in
theorem rstep22ca (gw cw gb : Nat) (c0 c1 c2 c3 c4 c5 : Int) (ws : List Nat) (k w0 v0 : Nat) (w : World) (hm : RefAt w gw gb ws) (hk : k < 8) (x : Nat) (hx : ws.getD (2 + k) 0 = x) (ha : (2 + k) < ws.length) (hw : w0 < 18446744073709551616) (hmn : x < v0) (q : Nat) (hq : rnext w0 (k + 1) = (q : Int)) :
    Calls Try.prog 11 #[.agg #[.int .i64 2, .int .i64 1, .int .i64 0, .int .i64 k, .int .i64 2, .int .u64 w0, .int .u64 v0, .int .i64 0], .agg #[.slice (some ⟨gw, 0, none⟩) ws.length cw, .slice (some ⟨gb, 0, none⟩) ws.length ws.length, .int .i64 c0, .int .i64 c1, .int .i64 c2, .int .i64 c3, .int .i64 c4, .int .i64 c5, .int .i64 (-1), .bool false]] w fun e w' => RefTold19 w gw gb ws [.int .i64 2, .int .i64 1, .int .i64 0, .int .i64 q, .int .i64 2, .int .u64 w0, .int .u64 x, .int .i64 0] e w' := by
  have HM := Lib.hid hm
  have k8 : (k : Int) < 8 := by omega
  have HK := Lib.hid hk
  have HA := Lib.hid ha
  have hx64 : x < 18446744073709551616 := by rw [← hx]; exact hm.getD_lt (2 + k)
  have HX := Lib.hid hx
  have hnx := fun W => rnext_calls w0 (k + 1) W (by omega) hw
  rw [hq] at hnx
  rw [show ((k + 1 : Nat) : Int) = (k : Int) + 1 from rfl] at hnx
  have HNX := Lib.hid hnx
  have tq : decide ((q : Int) < 0) = false := by simp
  have hmi : (x : Int) < (v0 : Int) := by omega
  clear hnx hq hx64 hx ha hw hmn
  have HU := Lib.hid (fun W => ruse22 k w0 v0 0 W HK.out)
  have HMS := Lib.hid (fun W (h : RefAt W gw gb ws) => by have hh := refload_same gw cw gb c0 c1 c2 c3 c4 c5 ws (2 + k) W h HA.out; rw [HX.out] at hh; exact hh)
  obtain ⟨L, hL⟩ : ∃ L, ws.length = L := ⟨_, rfl⟩
  rw [hL] at HMS ⊢
  have HL := Lib.hid hL
  clear hm hk hL
  go_enter Try.func11, Try.ntmps11
  go_upto_region 3 with fail
  have hs := rst_new w (.int .i64 2) (.int .i64 1) (.int .i64 0) (.int .i64 k) (.int .i64 2) (.int .u64 w0) (.int .u64 v0) (.int .i64 0) (.slice (some ⟨gw, 0, none⟩) L cw) (.slice (some ⟨gb, 0, none⟩) L L) (.int .i64 c0) (.int .i64 c1) (.int .i64 c2) (.int .i64 c3) (.int .i64 c4) (.int .i64 c5) (.int .i64 (-1)) (.bool false)
  generalize (((w.alloc (Obj.cells #[.int .i64 2, .int .i64 1, .int .i64 0, .int .i64 k, .int .i64 2, .int .u64 w0, .int .u64 v0, .int .i64 0] 44)).alloc (Obj.cells #[.slice (some ⟨gw, 0, none⟩) L cw, .slice (some ⟨gb, 0, none⟩) L L, .int .i64 c0, .int .i64 c1, .int .i64 c2, .int .i64 c3, .int .i64 c4, .int .i64 c5, .int .i64 (-1), .bool false] 34)).alloc (Obj.cells #[.int .i64 0, .int .i64 0, .int .i64 0, .int .i64 0, .int .i64 0, .int .u64 0, .int .u64 0, .int .i64 0] 44)).alloc (Obj.cells #[.slice none 0 0, .slice none 0 0, .int .i64 0, .int .i64 0, .int .i64 0, .int .i64 0, .int .i64 0, .int .i64 0, .int .i64 0, .bool false] 34) = W1 at hs ⊢
  have HS := Lib.hid hs
  clear hs
  go_cut [6, 7, 8] (fun v6 v7 v8 wx => ∃ (tt gg cc : Nat) (d0 d1 d2 d3 d4 d5 : Int), v6 = .pointer (some ⟨tt, 0, none⟩) ∧ v7 = .int .u64 (x : Nat) ∧ v8 = .bool false ∧ Hid (RQt w wx tt gg gb ws [.int .i64 2, .int .i64 1, .int .i64 0, .int .i64 k, .int .i64 2, .int .u64 w0, .int .u64 v0, .int .i64 0] [.int .i64 0, .int .i64 0, .int .i64 0, .int .i64 0, .int .i64 0, .int .u64 0, .int .u64 0, .int .i64 0] [.slice (some ⟨gg, 0, none⟩) L cc, .slice (some ⟨gb, 0, none⟩) L L, .int .i64 d0, .int .i64 d1, .int .i64 d2, .int .i64 d3, .int .i64 d4, .int .i64 d5, .int .i64 (-1), .bool false] [.slice none 0 0, .slice none 0 0, .int .i64 0, .int .i64 0, .int .i64 0, .int .i64 0, .int .i64 0, .int .i64 0, .int .i64 0, .bool false]))
  case first =>
    refine wp_region_held_drew (S := (fun w' => w'.cell? ⟨w.heap.size, 0, none⟩ = some (.int .i64 2) ∧ w'.cell? ⟨w.heap.size, 1, none⟩ = some (.int .i64 1) ∧ w'.cell? ⟨w.heap.size, 2, none⟩ = some (.int .i64 0) ∧ w'.cell? ⟨w.heap.size, 3, none⟩ = some (.int .i64 k) ∧ w'.cell? ⟨w.heap.size, 4, none⟩ = some (.int .i64 2) ∧ w'.cell? ⟨w.heap.size, 5, none⟩ = some (.int .u64 w0) ∧ w'.cell? ⟨w.heap.size, 6, none⟩ = some (.int .u64 v0) ∧ w'.cell? ⟨w.heap.size, 7, none⟩ = some (.int .i64 0) ∧ w'.cell? ⟨w.heap.size + 1, 0, none⟩ = some (.slice (some ⟨gw, 0, none⟩) L cw) ∧ w'.cell? ⟨w.heap.size + 1, 1, none⟩ = some (.slice (some ⟨gb, 0, none⟩) L L) ∧ w'.cell? ⟨w.heap.size + 1, 2, none⟩ = some (.int .i64 c0) ∧ w'.cell? ⟨w.heap.size + 1, 3, none⟩ = some (.int .i64 c1) ∧ w'.cell? ⟨w.heap.size + 1, 4, none⟩ = some (.int .i64 c2) ∧ w'.cell? ⟨w.heap.size + 1, 5, none⟩ = some (.int .i64 c3) ∧ w'.cell? ⟨w.heap.size + 1, 6, none⟩ = some (.int .i64 c4) ∧ w'.cell? ⟨w.heap.size + 1, 7, none⟩ = some (.int .i64 c5) ∧ w'.cell? ⟨w.heap.size + 1, 8, none⟩ = some (.int .i64 (-1)) ∧ w'.cell? ⟨w.heap.size + 1, 9, none⟩ = some (.bool false))) (by kernel_rfl) (rst_cells HS.out.drew) (fun hH0 => ?_)
    refine take_first 0 (some 16) ?_ rfl rfl (by kernel_rfl) (by kernel_rfl) (by kernel_rfl) (fun _ _ _ h => h) rfl ?hy hH0 ?_
    case hy => (intro w0 hS0; (try dsimp only at hS0); (try go_simp); try with_reducible rfl)
    try simp only [Act.put, List.setIfInBounds_toArray, List.set_cons_zero, List.set_cons_succ]
    refine take_first 1 (some 17) ?_ rfl rfl (by kernel_rfl) (by kernel_rfl) (by kernel_rfl) (fun _ _ _ h => h) rfl ?hy hH0 ?_
    case hy => (intro w0 hS0; (try dsimp only at hS0); (try go_simp); try with_reducible rfl)
    try simp only [Act.put, List.setIfInBounds_toArray, List.set_cons_zero, List.set_cons_succ]
    refine wpAnyH_ready (rs := [2, 8]) (by kernel_rfl) (by simp) (AllReadyH.cons rfl (fun K hK => ?c2x0) (AllReadyH.cons rfl (fun K hK => ?c8x0) AllReadyH.nil))
    case c2x0 =>
      have h0 := HS.out.drew
      generalize W1.drew = wq at h0 hK ⊢
      have HSQ := Lib.hid h0
      clear h0
      go_simp
      refine (HU.out _).mono ?_; rintro e wu ⟨rfl, hb⟩
      have HSQ := Lib.hid (HSQ.out.below hb)
      clear hb
      refine hK.out _ _ (rst_cells HSQ.out) (fun hH1 => ?_)
      clear hK hH0
      try simp only [Act.put, List.setIfInBounds_toArray, List.set_cons_zero, List.set_cons_succ]
      refine wpAnyH_ready (rs := [3, 8]) (by kernel_rfl) (by simp) (AllReadyH.cons rfl (fun K hK => ?c3x1) (AllReadyH.cons rfl (fun K hK => ?c8x1) AllReadyH.nil))
      case c3x1 =>
        go_simp
        refine (HMS.out _ (HM.out.below HSQ.out.b)).mono ?_; rintro e wv hto
        obtain ⟨gg, cc, d0, d1, d2, d3, d4, d5, he, hr, hgg, hb⟩ := hto
        (try simp only [List.length_set] at he hr)
        rw [HL.out] at he
        subst he
        have hg1 : w.heap.size ≤ gg ∧ gg ≠ w.heap.size ∧ gg ≠ w.heap.size + 1 + 1 ∧ gg ≠ w.heap.size + 1 + 1 + 1 := by have := HSQ.out.o.lt; have := HSQ.out.z.lt; have := HSQ.out.y.lt; have := HSQ.out.b.size; omega
        have HRR := Lib.hid (And.intro hr hg1)
        have HSQ := Lib.hid (HSQ.out.below hb)
        clear hr hgg hb hg1
        refine hK.out _ _ (rst_cells HSQ.out) (fun hH2 => ?_)
        clear hK hH1
        try simp only [Act.put, List.setIfInBounds_toArray, List.set_cons_zero, List.set_cons_succ]
        refine take_first 4 (some 15) ?_ rfl rfl (by kernel_rfl) (by kernel_rfl) (by kernel_rfl) (fun _ _ _ h => h) rfl ?hy hH2 ?_
        case hy => (intro w0 hS0; (try dsimp only at hS0); (try go_simp); try with_reducible rfl)
        try simp only [Act.put, List.setIfInBounds_toArray, List.set_cons_zero, List.set_cons_succ]
        refine take_first 5 (some 20) ?_ rfl rfl (by kernel_rfl) (by kernel_rfl) (by kernel_rfl) (fun _ _ _ h => h) rfl ?hy hH2 ?_
        case hy => (intro w0 hS0; (try dsimp only at hS0); (try go_simp); try with_reducible rfl)
        try simp only [Act.put, List.setIfInBounds_toArray, List.set_cons_zero, List.set_cons_succ]
        refine take_first 6 (some 21) ?_ rfl rfl (by kernel_rfl) (by kernel_rfl) (by kernel_rfl) (fun _ _ _ h => h) rfl ?hy hH2 ?_
        case hy => (intro w0 hS0; (try dsimp only at hS0); (try go_simp); try with_reducible rfl)
        try simp only [Act.put, List.setIfInBounds_toArray, List.set_cons_zero, List.set_cons_succ]
        refine take_first 7 (some 22) ?_ rfl rfl (by kernel_rfl) (by kernel_rfl) (by kernel_rfl) (fun _ _ _ h => h) rfl ?hy hH2 ?_
        case hy => (intro w0 hS0; (try dsimp only at hS0); (try go_simp); try with_reducible rfl)
        try simp only [Act.put, List.setIfInBounds_toArray, List.set_cons_zero, List.set_cons_succ]
        refine wpAnyH_ready (rs := [8]) (by kernel_rfl) (by simp) (AllReadyH.cons rfl (fun K hK => ?_) AllReadyH.nil)
        go_simp
        have bt := blk_new wv 34 #[.slice none 0 0, .slice none 0 0, .int .i64 0, .int .i64 0, .int .i64 0, .int .i64 0, .int .i64 0, .int .i64 0, .int .i64 0, .bool false] _ rfl
        have hs := HSQ.out.below (bnew (Below.refl _ _) (Obj.cells #[.slice none 0 0, .slice none 0 0, .int .i64 0, .int .i64 0, .int .i64 0, .int .i64 0, .int .i64 0, .int .i64 0, .int .i64 0, .bool false] 34))
        have hlt : w.heap.size + 1 + 1 + 1 < wv.heap.size := HSQ.out.y.lt
        have hr := HRR.out.1.below (bnew (Below.refl _ _) (Obj.cells #[.slice none 0 0, .slice none 0 0, .int .i64 0, .int .i64 0, .int .i64 0, .int .i64 0, .int .i64 0, .int .i64 0, .int .i64 0, .bool false] 34))
        have hg2 : gg ≠ wv.heap.size := by obtain ⟨_, hgb⟩ := HRR.out.1.words; have := hgb.lt; omega
        generalize wv.alloc (Obj.cells #[.slice none 0 0, .slice none 0 0, .int .i64 0, .int .i64 0, .int .i64 0, .int .i64 0, .int .i64 0, .int .i64 0, .int .i64 0, .bool false] 34) = wa at bt hs hr hK ⊢
        generalize wv.heap.size = tt at bt hlt hg2 hK ⊢
        have HSQ := Lib.hid hs
        have HBT := Lib.hid (And.intro bt hlt)
        have HRR := Lib.hid (And.intro hr (And.intro HRR.out.2 hg2))
        clear hr hg2
        clear bt hs hlt
        refine hK.out _ _ (rst_cells HSQ.out) (fun hH3 => ?_)
        clear hK hH2
        try simp only [Act.put, List.setIfInBounds_toArray, List.set_cons_zero, List.set_cons_succ]
        refine wpAnyH_ready (rs := [9]) (by kernel_rfl) (by simp) (AllReadyH.cons rfl (fun K hK => ?_) AllReadyH.nil)
        obtain ⟨y0, y1, y2, y3, y4, y5, y6, y7, y8, y9, z0, z1, z2, z3, z4, z5, z6, z7, z8, z9⟩ := cf10 HBT.out.1
        go_simp
        clear y0 z0 y1 z1 y2 z2 y3 z3 y4 z4 y5 z5 y6 z6 y7 z7 y8 z8 y9 z9
        obtain ⟨bt, hc⟩ := set10 HBT.out.1 (.slice (some ⟨gg, 0, none⟩) L cc) (.slice (some ⟨gb, 0, none⟩) L L) (.int .i64 d0) (.int .i64 d1) (.int .i64 d2) (.int .i64 d3) (.int .i64 d4) (.int .i64 d5) (.int .i64 (-1)) (.bool false)
        have hs := HSQ.out.chg HBT.out.2 hc
        have hr := HRR.out.1.chg hc (fun e => HRR.out.2.2 e) (fun e => by have := HM.out.marks.lt; have := HBT.out.2; omega)
        generalize ((((((((((wa.setCell ⟨tt, 0, none⟩ (.slice (some ⟨gg, 0, none⟩) L cc)).setCell ⟨tt, 1, none⟩ (.slice (some ⟨gb, 0, none⟩) L L)).setCell ⟨tt, 2, none⟩ (.int .i64 d0)).setCell ⟨tt, 3, none⟩ (.int .i64 d1)).setCell ⟨tt, 4, none⟩ (.int .i64 d2)).setCell ⟨tt, 5, none⟩ (.int .i64 d3)).setCell ⟨tt, 6, none⟩ (.int .i64 d4)).setCell ⟨tt, 7, none⟩ (.int .i64 d5)).setCell ⟨tt, 8, none⟩ (.int .i64 (-1))).setCell ⟨tt, 9, none⟩ (.bool false)) = wt at bt hs hr hK ⊢
        have HSQ := Lib.hid hs
        have HQT : Hid (RQt w wt tt gg gb ws [.int .i64 2, .int .i64 1, .int .i64 0, .int .i64 k, .int .i64 2, .int .u64 w0, .int .u64 v0, .int .i64 0] [.int .i64 0, .int .i64 0, .int .i64 0, .int .i64 0, .int .i64 0, .int .u64 0, .int .u64 0, .int .i64 0] [.slice (some ⟨gg, 0, none⟩) L cc, .slice (some ⟨gb, 0, none⟩) L L, .int .i64 d0, .int .i64 d1, .int .i64 d2, .int .i64 d3, .int .i64 d4, .int .i64 d5, .int .i64 (-1), .bool false] [.slice none 0 0, .slice none 0 0, .int .i64 0, .int .i64 0, .int .i64 0, .int .i64 0, .int .i64 0, .int .i64 0, .int .i64 0, .bool false]) := Lib.hid ⟨hs.o, hs.z, hs.y, bt, hs.b, hr, HBT.out.2, HM.out.marks.lt, HRR.out.2.1.1, HRR.out.2.1.2.1, HRR.out.2.1.2.2.1, HRR.out.2.1.2.2.2, HRR.out.2.2⟩
        clear bt hc hs hr
        refine hK.out _ _ (rst_cells HSQ.out) (fun hH4 => ?_)
        clear hK hH3
        try simp only [Act.put, List.setIfInBounds_toArray, List.set_cons_zero, List.set_cons_succ]
        refine take_first 10 (some 7) ?_ rfl rfl (by kernel_rfl) (by kernel_rfl) (by kernel_rfl) (fun _ _ _ h => h) rfl ?hy hH4 ?_
        case hy => (intro w0 hS0; (try dsimp only at hS0); (try go_simp); try with_reducible rfl)
        try simp only [Act.put, List.setIfInBounds_toArray, List.set_cons_zero, List.set_cons_succ]
        refine take_first 11 (some 8) ?_ rfl rfl (by kernel_rfl) (by kernel_rfl) (by kernel_rfl) (fun _ _ _ h => h) rfl ?hy hH4 ?_
        case hy => (intro w0 hS0; (try dsimp only at hS0); (try go_simp); try with_reducible rfl)
        try simp only [Act.put, List.setIfInBounds_toArray, List.set_cons_zero, List.set_cons_succ]
        refine wpAnyH_done (by kernel_rfl) ?_ _
        clear hH4 HSQ HBT HRR
        go_wp2
        go_meet
        case rel => exact ⟨tt, gg, cc, d0, d1, d2, d3, d4, d5, rfl, rfl, rfl, HQT⟩
      case c8x1 =>
        go_simp
        have bt := blk_new wu 34 #[.slice none 0 0, .slice none 0 0, .int .i64 0, .int .i64 0, .int .i64 0, .int .i64 0, .int .i64 0, .int .i64 0, .int .i64 0, .bool false] _ rfl
        have hs := HSQ.out.below (bnew (Below.refl _ _) (Obj.cells #[.slice none 0 0, .slice none 0 0, .int .i64 0, .int .i64 0, .int .i64 0, .int .i64 0, .int .i64 0, .int .i64 0, .int .i64 0, .bool false] 34))
        have hlt : w.heap.size + 1 + 1 + 1 < wu.heap.size := HSQ.out.y.lt
        generalize wu.alloc (Obj.cells #[.slice none 0 0, .slice none 0 0, .int .i64 0, .int .i64 0, .int .i64 0, .int .i64 0, .int .i64 0, .int .i64 0, .int .i64 0, .bool false] 34) = wa at bt hs  hK ⊢
        generalize wu.heap.size = tt at bt hlt  hK ⊢
        have HSQ := Lib.hid hs
        have HBT := Lib.hid (And.intro bt hlt)
        clear bt hs hlt
        refine hK.out _ _ (rst_cells HSQ.out) (fun hH2 => ?_)
        clear hK hH1
        try simp only [Act.put, List.setIfInBounds_toArray, List.set_cons_zero, List.set_cons_succ]
        refine wpAnyH_ready (rs := [3]) (by kernel_rfl) (by simp) (AllReadyH.cons rfl (fun K hK => ?_) AllReadyH.nil)
        go_simp
        refine (HMS.out _ (HM.out.below HSQ.out.b)).mono ?_; rintro e wv hto
        obtain ⟨gg, cc, d0, d1, d2, d3, d4, d5, he, hr, hgg, hb⟩ := hto
        (try simp only [List.length_set] at he hr)
        rw [HL.out] at he
        subst he
        have hg1 : w.heap.size ≤ gg ∧ gg ≠ w.heap.size ∧ gg ≠ w.heap.size + 1 + 1 ∧ gg ≠ w.heap.size + 1 + 1 + 1 := by have := HSQ.out.o.lt; have := HSQ.out.z.lt; have := HSQ.out.y.lt; have := HSQ.out.b.size; omega
        have hg2 : gg ≠ tt := by have := HBT.out.1.lt; omega
        have HBT := Lib.hid (And.intro (HBT.out.1.chg (chg_of_below (fun _ => False) hb) (fun h => h)) HBT.out.2)
        have HRR := Lib.hid (And.intro hr (And.intro hg1 hg2))
        clear hg2
        have HSQ := Lib.hid (HSQ.out.below hb)
        clear hr hgg hb hg1
        refine hK.out _ _ (rst_cells HSQ.out) (fun hH3 => ?_)
        clear hK hH2
        try simp only [Act.put, List.setIfInBounds_toArray, List.set_cons_zero, List.set_cons_succ]
        refine take_first 4 (some 15) ?_ rfl rfl (by kernel_rfl) (by kernel_rfl) (by kernel_rfl) (fun _ _ _ h => h) rfl ?hy hH3 ?_
        case hy => (intro w0 hS0; (try dsimp only at hS0); (try go_simp); try with_reducible rfl)
        try simp only [Act.put, List.setIfInBounds_toArray, List.set_cons_zero, List.set_cons_succ]
        refine take_first 5 (some 20) ?_ rfl rfl (by kernel_rfl) (by kernel_rfl) (by kernel_rfl) (fun _ _ _ h => h) rfl ?hy hH3 ?_
        case hy => (intro w0 hS0; (try dsimp only at hS0); (try go_simp); try with_reducible rfl)
        try simp only [Act.put, List.setIfInBounds_toArray, List.set_cons_zero, List.set_cons_succ]
        refine take_first 6 (some 21) ?_ rfl rfl (by kernel_rfl) (by kernel_rfl) (by kernel_rfl) (fun _ _ _ h => h) rfl ?hy hH3 ?_
        case hy => (intro w0 hS0; (try dsimp only at hS0); (try go_simp); try with_reducible rfl)
        try simp only [Act.put, List.setIfInBounds_toArray, List.set_cons_zero, List.set_cons_succ]
        refine take_first 7 (some 22) ?_ rfl rfl (by kernel_rfl) (by kernel_rfl) (by kernel_rfl) (fun _ _ _ h => h) rfl ?hy hH3 ?_
        case hy => (intro w0 hS0; (try dsimp only at hS0); (try go_simp); try with_reducible rfl)
        try simp only [Act.put, List.setIfInBounds_toArray, List.set_cons_zero, List.set_cons_succ]
        refine wpAnyH_ready (rs := [9]) (by kernel_rfl) (by simp) (AllReadyH.cons rfl (fun K hK => ?_) AllReadyH.nil)
        obtain ⟨y0, y1, y2, y3, y4, y5, y6, y7, y8, y9, z0, z1, z2, z3, z4, z5, z6, z7, z8, z9⟩ := cf10 HBT.out.1
        go_simp
        clear y0 z0 y1 z1 y2 z2 y3 z3 y4 z4 y5 z5 y6 z6 y7 z7 y8 z8 y9 z9
        obtain ⟨bt, hc⟩ := set10 HBT.out.1 (.slice (some ⟨gg, 0, none⟩) L cc) (.slice (some ⟨gb, 0, none⟩) L L) (.int .i64 d0) (.int .i64 d1) (.int .i64 d2) (.int .i64 d3) (.int .i64 d4) (.int .i64 d5) (.int .i64 (-1)) (.bool false)
        have hs := HSQ.out.chg HBT.out.2 hc
        have hr := HRR.out.1.chg hc (fun e => HRR.out.2.2 e) (fun e => by have := HM.out.marks.lt; have := HBT.out.2; omega)
        generalize ((((((((((wv.setCell ⟨tt, 0, none⟩ (.slice (some ⟨gg, 0, none⟩) L cc)).setCell ⟨tt, 1, none⟩ (.slice (some ⟨gb, 0, none⟩) L L)).setCell ⟨tt, 2, none⟩ (.int .i64 d0)).setCell ⟨tt, 3, none⟩ (.int .i64 d1)).setCell ⟨tt, 4, none⟩ (.int .i64 d2)).setCell ⟨tt, 5, none⟩ (.int .i64 d3)).setCell ⟨tt, 6, none⟩ (.int .i64 d4)).setCell ⟨tt, 7, none⟩ (.int .i64 d5)).setCell ⟨tt, 8, none⟩ (.int .i64 (-1))).setCell ⟨tt, 9, none⟩ (.bool false)) = wt at bt hs hr hK ⊢
        have HSQ := Lib.hid hs
        have HQT : Hid (RQt w wt tt gg gb ws [.int .i64 2, .int .i64 1, .int .i64 0, .int .i64 k, .int .i64 2, .int .u64 w0, .int .u64 v0, .int .i64 0] [.int .i64 0, .int .i64 0, .int .i64 0, .int .i64 0, .int .i64 0, .int .u64 0, .int .u64 0, .int .i64 0] [.slice (some ⟨gg, 0, none⟩) L cc, .slice (some ⟨gb, 0, none⟩) L L, .int .i64 d0, .int .i64 d1, .int .i64 d2, .int .i64 d3, .int .i64 d4, .int .i64 d5, .int .i64 (-1), .bool false] [.slice none 0 0, .slice none 0 0, .int .i64 0, .int .i64 0, .int .i64 0, .int .i64 0, .int .i64 0, .int .i64 0, .int .i64 0, .bool false]) := Lib.hid ⟨hs.o, hs.z, hs.y, bt, hs.b, hr, HBT.out.2, HM.out.marks.lt, HRR.out.2.1.1, HRR.out.2.1.2.1, HRR.out.2.1.2.2.1, HRR.out.2.1.2.2.2, HRR.out.2.2⟩
        clear bt hc hs hr
        refine hK.out _ _ (rst_cells HSQ.out) (fun hH4 => ?_)
        clear hK hH3
        try simp only [Act.put, List.setIfInBounds_toArray, List.set_cons_zero, List.set_cons_succ]
        refine take_first 10 (some 7) ?_ rfl rfl (by kernel_rfl) (by kernel_rfl) (by kernel_rfl) (fun _ _ _ h => h) rfl ?hy hH4 ?_
        case hy => (intro w0 hS0; (try dsimp only at hS0); (try go_simp); try with_reducible rfl)
        try simp only [Act.put, List.setIfInBounds_toArray, List.set_cons_zero, List.set_cons_succ]
        refine take_first 11 (some 8) ?_ rfl rfl (by kernel_rfl) (by kernel_rfl) (by kernel_rfl) (fun _ _ _ h => h) rfl ?hy hH4 ?_
        case hy => (intro w0 hS0; (try dsimp only at hS0); (try go_simp); try with_reducible rfl)
        try simp only [Act.put, List.setIfInBounds_toArray, List.set_cons_zero, List.set_cons_succ]
        refine wpAnyH_done (by kernel_rfl) ?_ _
        clear hH4 HSQ HBT HRR
        go_wp2
        go_meet
        case rel => exact ⟨tt, gg, cc, d0, d1, d2, d3, d4, d5, rfl, rfl, rfl, HQT⟩
    case c8x0 =>
      have h0 := HS.out.drew
      generalize W1.drew = wq at h0 hK ⊢
      have HSQ := Lib.hid h0
      clear h0
      go_simp
      have bt := blk_new wq 34 #[.slice none 0 0, .slice none 0 0, .int .i64 0, .int .i64 0, .int .i64 0, .int .i64 0, .int .i64 0, .int .i64 0, .int .i64 0, .bool false] _ rfl
      have hs := HSQ.out.below (bnew (Below.refl _ _) (Obj.cells #[.slice none 0 0, .slice none 0 0, .int .i64 0, .int .i64 0, .int .i64 0, .int .i64 0, .int .i64 0, .int .i64 0, .int .i64 0, .bool false] 34))
      have hlt : w.heap.size + 1 + 1 + 1 < wq.heap.size := HSQ.out.y.lt
      generalize wq.alloc (Obj.cells #[.slice none 0 0, .slice none 0 0, .int .i64 0, .int .i64 0, .int .i64 0, .int .i64 0, .int .i64 0, .int .i64 0, .int .i64 0, .bool false] 34) = wa at bt hs  hK ⊢
      generalize wq.heap.size = tt at bt hlt  hK ⊢
      have HSQ := Lib.hid hs
      have HBT := Lib.hid (And.intro bt hlt)
      clear bt hs hlt
      refine hK.out _ _ (rst_cells HSQ.out) (fun hH1 => ?_)
      clear hK hH0
      try simp only [Act.put, List.setIfInBounds_toArray, List.set_cons_zero, List.set_cons_succ]
      refine wpAnyH_ready (rs := [2]) (by kernel_rfl) (by simp) (AllReadyH.cons rfl (fun K hK => ?_) AllReadyH.nil)
      go_simp
      refine (HU.out _).mono ?_; rintro e wu ⟨rfl, hb⟩
      have HSQ := Lib.hid (HSQ.out.below hb)
      have HBT := Lib.hid (And.intro (HBT.out.1.chg (chg_of_below (fun _ => False) hb) (fun h => h)) HBT.out.2)
      clear hb
      refine hK.out _ _ (rst_cells HSQ.out) (fun hH2 => ?_)
      clear hK hH1
      try simp only [Act.put, List.setIfInBounds_toArray, List.set_cons_zero, List.set_cons_succ]
      refine wpAnyH_ready (rs := [3]) (by kernel_rfl) (by simp) (AllReadyH.cons rfl (fun K hK => ?_) AllReadyH.nil)
      go_simp
      refine (HMS.out _ (HM.out.below HSQ.out.b)).mono ?_; rintro e wv hto
      obtain ⟨gg, cc, d0, d1, d2, d3, d4, d5, he, hr, hgg, hb⟩ := hto
      (try simp only [List.length_set] at he hr)
      rw [HL.out] at he
      subst he
      have hg1 : w.heap.size ≤ gg ∧ gg ≠ w.heap.size ∧ gg ≠ w.heap.size + 1 + 1 ∧ gg ≠ w.heap.size + 1 + 1 + 1 := by have := HSQ.out.o.lt; have := HSQ.out.z.lt; have := HSQ.out.y.lt; have := HSQ.out.b.size; omega
      have hg2 : gg ≠ tt := by have := HBT.out.1.lt; omega
      have HBT := Lib.hid (And.intro (HBT.out.1.chg (chg_of_below (fun _ => False) hb) (fun h => h)) HBT.out.2)
      have HRR := Lib.hid (And.intro hr (And.intro hg1 hg2))
      clear hg2
      have HSQ := Lib.hid (HSQ.out.below hb)
      clear hr hgg hb hg1
      refine hK.out _ _ (rst_cells HSQ.out) (fun hH3 => ?_)
      clear hK hH2
      try simp only [Act.put, List.setIfInBounds_toArray, List.set_cons_zero, List.set_cons_succ]
      refine take_first 4 (some 15) ?_ rfl rfl (by kernel_rfl) (by kernel_rfl) (by kernel_rfl) (fun _ _ _ h => h) rfl ?hy hH3 ?_
      case hy => (intro w0 hS0; (try dsimp only at hS0); (try go_simp); try with_reducible rfl)
      try simp only [Act.put, List.setIfInBounds_toArray, List.set_cons_zero, List.set_cons_succ]
      refine take_first 5 (some 20) ?_ rfl rfl (by kernel_rfl) (by kernel_rfl) (by kernel_rfl) (fun _ _ _ h => h) rfl ?hy hH3 ?_
      case hy => (intro w0 hS0; (try dsimp only at hS0); (try go_simp); try with_reducible rfl)
      try simp only [Act.put, List.setIfInBounds_toArray, List.set_cons_zero, List.set_cons_succ]
      refine take_first 6 (some 21) ?_ rfl rfl (by kernel_rfl) (by kernel_rfl) (by kernel_rfl) (fun _ _ _ h => h) rfl ?hy hH3 ?_
      case hy => (intro w0 hS0; (try dsimp only at hS0); (try go_simp); try with_reducible rfl)
      try simp only [Act.put, List.setIfInBounds_toArray, List.set_cons_zero, List.set_cons_succ]
      refine take_first 7 (some 22) ?_ rfl rfl (by kernel_rfl) (by kernel_rfl) (by kernel_rfl) (fun _ _ _ h => h) rfl ?hy hH3 ?_
      case hy => (intro w0 hS0; (try dsimp only at hS0); (try go_simp); try with_reducible rfl)
      try simp only [Act.put, List.setIfInBounds_toArray, List.set_cons_zero, List.set_cons_succ]
      refine wpAnyH_ready (rs := [9]) (by kernel_rfl) (by simp) (AllReadyH.cons rfl (fun K hK => ?_) AllReadyH.nil)
      obtain ⟨y0, y1, y2, y3, y4, y5, y6, y7, y8, y9, z0, z1, z2, z3, z4, z5, z6, z7, z8, z9⟩ := cf10 HBT.out.1
      go_simp
      clear y0 z0 y1 z1 y2 z2 y3 z3 y4 z4 y5 z5 y6 z6 y7 z7 y8 z8 y9 z9
      obtain ⟨bt, hc⟩ := set10 HBT.out.1 (.slice (some ⟨gg, 0, none⟩) L cc) (.slice (some ⟨gb, 0, none⟩) L L) (.int .i64 d0) (.int .i64 d1) (.int .i64 d2) (.int .i64 d3) (.int .i64 d4) (.int .i64 d5) (.int .i64 (-1)) (.bool false)
      have hs := HSQ.out.chg HBT.out.2 hc
      have hr := HRR.out.1.chg hc (fun e => HRR.out.2.2 e) (fun e => by have := HM.out.marks.lt; have := HBT.out.2; omega)
      generalize ((((((((((wv.setCell ⟨tt, 0, none⟩ (.slice (some ⟨gg, 0, none⟩) L cc)).setCell ⟨tt, 1, none⟩ (.slice (some ⟨gb, 0, none⟩) L L)).setCell ⟨tt, 2, none⟩ (.int .i64 d0)).setCell ⟨tt, 3, none⟩ (.int .i64 d1)).setCell ⟨tt, 4, none⟩ (.int .i64 d2)).setCell ⟨tt, 5, none⟩ (.int .i64 d3)).setCell ⟨tt, 6, none⟩ (.int .i64 d4)).setCell ⟨tt, 7, none⟩ (.int .i64 d5)).setCell ⟨tt, 8, none⟩ (.int .i64 (-1))).setCell ⟨tt, 9, none⟩ (.bool false)) = wt at bt hs hr hK ⊢
      have HSQ := Lib.hid hs
      have HQT : Hid (RQt w wt tt gg gb ws [.int .i64 2, .int .i64 1, .int .i64 0, .int .i64 k, .int .i64 2, .int .u64 w0, .int .u64 v0, .int .i64 0] [.int .i64 0, .int .i64 0, .int .i64 0, .int .i64 0, .int .i64 0, .int .u64 0, .int .u64 0, .int .i64 0] [.slice (some ⟨gg, 0, none⟩) L cc, .slice (some ⟨gb, 0, none⟩) L L, .int .i64 d0, .int .i64 d1, .int .i64 d2, .int .i64 d3, .int .i64 d4, .int .i64 d5, .int .i64 (-1), .bool false] [.slice none 0 0, .slice none 0 0, .int .i64 0, .int .i64 0, .int .i64 0, .int .i64 0, .int .i64 0, .int .i64 0, .int .i64 0, .bool false]) := Lib.hid ⟨hs.o, hs.z, hs.y, bt, hs.b, hr, HBT.out.2, HM.out.marks.lt, HRR.out.2.1.1, HRR.out.2.1.2.1, HRR.out.2.1.2.2.1, HRR.out.2.1.2.2.2, HRR.out.2.2⟩
      clear bt hc hs hr
      refine hK.out _ _ (rst_cells HSQ.out) (fun hH4 => ?_)
      clear hK hH3
      try simp only [Act.put, List.setIfInBounds_toArray, List.set_cons_zero, List.set_cons_succ]
      refine take_first 10 (some 7) ?_ rfl rfl (by kernel_rfl) (by kernel_rfl) (by kernel_rfl) (fun _ _ _ h => h) rfl ?hy hH4 ?_
      case hy => (intro w0 hS0; (try dsimp only at hS0); (try go_simp); try with_reducible rfl)
      try simp only [Act.put, List.setIfInBounds_toArray, List.set_cons_zero, List.set_cons_succ]
      refine take_first 11 (some 8) ?_ rfl rfl (by kernel_rfl) (by kernel_rfl) (by kernel_rfl) (fun _ _ _ h => h) rfl ?hy hH4 ?_
      case hy => (intro w0 hS0; (try dsimp only at hS0); (try go_simp); try with_reducible rfl)
      try simp only [Act.put, List.setIfInBounds_toArray, List.set_cons_zero, List.set_cons_succ]
      refine wpAnyH_done (by kernel_rfl) ?_ _
      clear hH4 HSQ HBT HRR
      go_wp2
      go_meet
      case rel => exact ⟨tt, gg, cc, d0, d1, d2, d3, d4, d5, rfl, rfl, rfl, HQT⟩
  case rest =>
    obtain ⟨tt, gg, cc, d0, d1, d2, d3, d4, d5, rfl, rfl, rfl, HQ⟩ := hcut
    clear HS HU HMS
    obtain ⟨wx, hwx⟩ : ∃ wx : World, wx = wc := ⟨_, rfl⟩
    rw [← hwx] at HQ ⊢
    clear hwx
    obtain ⟨f0, f1, f2, f3, f4, f5, f6, f7, zf0, zf1, zf2, zf3, zf4, zf5, zf6, zf7⟩ := cf8 HQ.out.o
    go_wp2_with fail
    refine (HNX.out _).mono ?_; rintro e w' ⟨rfl, rfl⟩
    go_upto_region 31 with fail
    clear f0 zf0 f1 zf1 f2 zf2 f3 zf3 f4 zf4 f5 zf5 f6 zf6 f7 zf7
    have b0 : Blk ((wx.setCell ⟨w.heap.size, 6, none⟩ (.int .u64 x)).setCell ⟨w.heap.size, 3, none⟩ (.int .i64 q)) (w.heap.size) 44 [.int .i64 2, .int .i64 1, .int .i64 0, .int .i64 q, .int .i64 2, .int .u64 w0, .int .u64 x, .int .i64 0] := ((HQ.out.o.set 6 (.int .u64 x)).set 3 (.int .i64 q))
    have hch : Chg (fun j => j = w.heap.size) wx ((wx.setCell ⟨w.heap.size, 6, none⟩ (.int .u64 x)).setCell ⟨w.heap.size, 3, none⟩ (.int .i64 q)) := (((Chg.refl (fun j => j = w.heap.size) wx).setCell ⟨w.heap.size, 6, none⟩ (.int .u64 x) (fun _ => rfl)).setCell ⟨w.heap.size, 3, none⟩ (.int .i64 q) (fun _ => rfl))
    have hs := HQ.out.setO b0 hch
    clear b0 hch
    generalize ((wx.setCell ⟨w.heap.size, 6, none⟩ (.int .u64 x)).setCell ⟨w.heap.size, 3, none⟩ (.int .i64 q)) = wx at hs ⊢
    have HQ := Lib.hid hs
    clear hs
    refine wp_region_held_drew (S := (fun w' => w'.cell? ⟨w.heap.size, 0, none⟩ = some (.int .i64 2) ∧ w'.cell? ⟨w.heap.size, 1, none⟩ = some (.int .i64 1) ∧ w'.cell? ⟨w.heap.size, 2, none⟩ = some (.int .i64 0) ∧ w'.cell? ⟨w.heap.size, 3, none⟩ = some (.int .i64 q) ∧ w'.cell? ⟨w.heap.size, 4, none⟩ = some (.int .i64 2) ∧ w'.cell? ⟨w.heap.size, 5, none⟩ = some (.int .u64 w0) ∧ w'.cell? ⟨w.heap.size, 6, none⟩ = some (.int .u64 x) ∧ w'.cell? ⟨w.heap.size, 7, none⟩ = some (.int .i64 0) ∧ w'.cell? ⟨tt, 0, none⟩ = some (.slice (some ⟨gg, 0, none⟩) L cc) ∧ w'.cell? ⟨tt, 1, none⟩ = some (.slice (some ⟨gb, 0, none⟩) L L) ∧ w'.cell? ⟨tt, 2, none⟩ = some (.int .i64 d0) ∧ w'.cell? ⟨tt, 3, none⟩ = some (.int .i64 d1) ∧ w'.cell? ⟨tt, 4, none⟩ = some (.int .i64 d2) ∧ w'.cell? ⟨tt, 5, none⟩ = some (.int .i64 d3) ∧ w'.cell? ⟨tt, 6, none⟩ = some (.int .i64 d4) ∧ w'.cell? ⟨tt, 7, none⟩ = some (.int .i64 d5) ∧ w'.cell? ⟨tt, 8, none⟩ = some (.int .i64 (-1)) ∧ w'.cell? ⟨tt, 9, none⟩ = some (.bool false))) (by kernel_rfl) (rqt_cells HQ.out.drew) (fun hH0 => ?_)
    refine take_first 0 (some 122) ?_ rfl rfl (by kernel_rfl) (by kernel_rfl) (by kernel_rfl) (fun _ _ _ h => h) rfl ?hy hH0 ?_
    case hy => (intro w0 hS0; (try dsimp only at hS0); (try go_simp); try with_reducible rfl)
    try simp only [Act.put, List.setIfInBounds_toArray, List.set_cons_zero, List.set_cons_succ]
    refine take_first 1 (some 123) ?_ rfl rfl (by kernel_rfl) (by kernel_rfl) (by kernel_rfl) (fun _ _ _ h => h) rfl ?hy hH0 ?_
    case hy => (intro w0 hS0; (try dsimp only at hS0); (try go_simp); try with_reducible rfl)
    try simp only [Act.put, List.setIfInBounds_toArray, List.set_cons_zero, List.set_cons_succ]
    refine wpAnyH_ready (rs := [2]) (by kernel_rfl) (by simp) (AllReadyH.cons rfl (fun K hK => ?_) AllReadyH.nil)
    have h0 := HQ.out.drew
    generalize wx.drew = wq at h0 hK ⊢
    have HQ := Lib.hid h0
    clear h0
    obtain ⟨y0, y1, y2, y3, y4, y5, y6, y7, z0, z1, z2, z3, z4, z5, z6, z7⟩ := cf8 HQ.out.z
    go_simp
    clear y0 z0 y1 z1 y2 z2 y3 z3 y4 z4 y5 z5 y6 z6 y7 z7
    obtain ⟨bt, hc⟩ := set8 HQ.out.z (.int .i64 2) (.int .i64 1) (.int .i64 0) (.int .i64 q) (.int .i64 2) (.int .u64 w0) (.int .u64 x) (.int .i64 0)
    have hs := HQ.out.setZ bt hc
    generalize ((((((((wq.setCell ⟨w.heap.size + 1 + 1, 0, none⟩ (.int .i64 2)).setCell ⟨w.heap.size + 1 + 1, 1, none⟩ (.int .i64 1)).setCell ⟨w.heap.size + 1 + 1, 2, none⟩ (.int .i64 0)).setCell ⟨w.heap.size + 1 + 1, 3, none⟩ (.int .i64 q)).setCell ⟨w.heap.size + 1 + 1, 4, none⟩ (.int .i64 2)).setCell ⟨w.heap.size + 1 + 1, 5, none⟩ (.int .u64 w0)).setCell ⟨w.heap.size + 1 + 1, 6, none⟩ (.int .u64 x)).setCell ⟨w.heap.size + 1 + 1, 7, none⟩ (.int .i64 0)) = wz at hs hK ⊢
    have HQ := Lib.hid hs
    clear bt hc hs
    refine hK.out _ _ (rqt_cells HQ.out) (fun hH1 => ?_)
    clear hK hH0
    try simp only [Act.put, List.setIfInBounds_toArray, List.set_cons_zero, List.set_cons_succ]
    refine wpAnyH_ready (rs := [3]) (by kernel_rfl) (by simp) (AllReadyH.cons rfl (fun K hK => ?_) AllReadyH.nil)
    obtain ⟨y0, y1, y2, y3, y4, y5, y6, y7, y8, y9, z0, z1, z2, z3, z4, z5, z6, z7, z8, z9⟩ := cf10 HQ.out.y
    go_simp
    clear y0 z0 y1 z1 y2 z2 y3 z3 y4 z4 y5 z5 y6 z6 y7 z7 y8 z8 y9 z9
    obtain ⟨bt, hc⟩ := set10 HQ.out.y (.slice (some ⟨gg, 0, none⟩) L cc) (.slice (some ⟨gb, 0, none⟩) L L) (.int .i64 d0) (.int .i64 d1) (.int .i64 d2) (.int .i64 d3) (.int .i64 d4) (.int .i64 d5) (.int .i64 (-1)) (.bool false)
    have hs := HQ.out.setY bt hc
    generalize ((((((((((wz.setCell ⟨w.heap.size + 1 + 1 + 1, 0, none⟩ (.slice (some ⟨gg, 0, none⟩) L cc)).setCell ⟨w.heap.size + 1 + 1 + 1, 1, none⟩ (.slice (some ⟨gb, 0, none⟩) L L)).setCell ⟨w.heap.size + 1 + 1 + 1, 2, none⟩ (.int .i64 d0)).setCell ⟨w.heap.size + 1 + 1 + 1, 3, none⟩ (.int .i64 d1)).setCell ⟨w.heap.size + 1 + 1 + 1, 4, none⟩ (.int .i64 d2)).setCell ⟨w.heap.size + 1 + 1 + 1, 5, none⟩ (.int .i64 d3)).setCell ⟨w.heap.size + 1 + 1 + 1, 6, none⟩ (.int .i64 d4)).setCell ⟨w.heap.size + 1 + 1 + 1, 7, none⟩ (.int .i64 d5)).setCell ⟨w.heap.size + 1 + 1 + 1, 8, none⟩ (.int .i64 (-1))).setCell ⟨w.heap.size + 1 + 1 + 1, 9, none⟩ (.bool false)) = wy at hs hK ⊢
    have HQ := Lib.hid hs
    clear bt hc hs
    refine hK.out _ _ (rqt_cells HQ.out) (fun hH2 => ?_)
    clear hK hH1
    try simp only [Act.put, List.setIfInBounds_toArray, List.set_cons_zero, List.set_cons_succ]
    refine wpAnyH_done (by kernel_rfl) ?_ _
    clear hH2
    obtain ⟨g0, g1, g2, g3, g4, g5, g6, g7, _, _, _, _, _, _, _, _⟩ := cf8 HQ.out.z
    obtain ⟨l0, l1, l2, l3, l4, l5, l6, l7, l8, l9, _, _, _, _, _, _, _, _, _, _⟩ := cf10 HQ.out.y
    go_wp2
    refine bodyPost_ret (v := .tuple #[.agg #[.int .i64 2, .int .i64 1, .int .i64 0, .int .i64 q, .int .i64 2, .int .u64 w0, .int .u64 x, .int .i64 0], .agg #[.slice (some ⟨gg, 0, none⟩) L cc, .slice (some ⟨gb, 0, none⟩) L L, .int .i64 d0, .int .i64 d1, .int .i64 d2, .int .i64 d3, .int .i64 d4, .int .i64 d5, .int .i64 (-1), .bool false]]) (by simp [results, Try.results11, go_sem, g0, g1, g2, g3, g4, g5, g6, g7, l0, l1, l2, l3, l4, l5, l6, l7, l8, l9]) rfl ⟨gg, cc, d0, d1, d2, d3, d4, d5, by (try rw [List.length_set]); rw [HL.out], HQ.out.r, .inr HQ.out.g0, HQ.out.b⟩
set_option maxHeartbeats 8000000 in
set_option maxRecDepth 100000 in
theorem rstep22cb (gw cw gb : Nat) (c0 c1 c2 c3 c4 c5 : Int) (ws : List Nat) (k w0 v0 : Nat) (w : World) (hm : RefAt w gw gb ws) (hk : k < 8) (x : Nat) (hx : ws.getD (2 + k) 0 = x) (ha : (2 + k) < ws.length) (hw : w0 < 18446744073709551616) (hmn : x < v0) (hq : rnext w0 (k + 1) = -1) :
    Calls Try.prog 11 #[.agg #[.int .i64 2, .int .i64 1, .int .i64 0, .int .i64 k, .int .i64 2, .int .u64 w0, .int .u64 v0, .int .i64 0], .agg #[.slice (some ⟨gw, 0, none⟩) ws.length cw, .slice (some ⟨gb, 0, none⟩) ws.length ws.length, .int .i64 c0, .int .i64 c1, .int .i64 c2, .int .i64 c3, .int .i64 c4, .int .i64 c5, .int .i64 (-1), .bool false]] w fun e w' => RefTold19 w gw gb ws [.int .i64 2, .int .i64 1, .int .i64 0, .int .i64 (-1), .int .i64 6, .int .u64 w0, .int .u64 x, .int .i64 0] e w' := by
  have HM := Lib.hid hm
  have k8 : (k : Int) < 8 := by omega
  have HK := Lib.hid hk
  have HA := Lib.hid ha
  have hx64 : x < 18446744073709551616 := by rw [← hx]; exact hm.getD_lt (2 + k)
  have HX := Lib.hid hx
  have hnx := fun W => rnext_calls w0 (k + 1) W (by omega) hw
  rw [hq] at hnx
  rw [show ((k + 1 : Nat) : Int) = (k : Int) + 1 from rfl] at hnx
  have HNX := Lib.hid hnx
  have hmi : (x : Int) < (v0 : Int) := by omega
  clear hnx hq hx64 hx ha hw hmn
  have HU := Lib.hid (fun W => ruse22 k w0 v0 0 W HK.out)
  have HMS := Lib.hid (fun W (h : RefAt W gw gb ws) => by have hh := refload_same gw cw gb c0 c1 c2 c3 c4 c5 ws (2 + k) W h HA.out; rw [HX.out] at hh; exact hh)
  obtain ⟨L, hL⟩ : ∃ L, ws.length = L := ⟨_, rfl⟩
  rw [hL] at HMS ⊢
  have HL := Lib.hid hL
  clear hm hk hL
  go_enter Try.func11, Try.ntmps11
  go_upto_region 3 with fail
  have hs := rst_new w (.int .i64 2) (.int .i64 1) (.int .i64 0) (.int .i64 k) (.int .i64 2) (.int .u64 w0) (.int .u64 v0) (.int .i64 0) (.slice (some ⟨gw, 0, none⟩) L cw) (.slice (some ⟨gb, 0, none⟩) L L) (.int .i64 c0) (.int .i64 c1) (.int .i64 c2) (.int .i64 c3) (.int .i64 c4) (.int .i64 c5) (.int .i64 (-1)) (.bool false)
  generalize (((w.alloc (Obj.cells #[.int .i64 2, .int .i64 1, .int .i64 0, .int .i64 k, .int .i64 2, .int .u64 w0, .int .u64 v0, .int .i64 0] 44)).alloc (Obj.cells #[.slice (some ⟨gw, 0, none⟩) L cw, .slice (some ⟨gb, 0, none⟩) L L, .int .i64 c0, .int .i64 c1, .int .i64 c2, .int .i64 c3, .int .i64 c4, .int .i64 c5, .int .i64 (-1), .bool false] 34)).alloc (Obj.cells #[.int .i64 0, .int .i64 0, .int .i64 0, .int .i64 0, .int .i64 0, .int .u64 0, .int .u64 0, .int .i64 0] 44)).alloc (Obj.cells #[.slice none 0 0, .slice none 0 0, .int .i64 0, .int .i64 0, .int .i64 0, .int .i64 0, .int .i64 0, .int .i64 0, .int .i64 0, .bool false] 34) = W1 at hs ⊢
  have HS := Lib.hid hs
  clear hs
  go_cut [6, 7, 8] (fun v6 v7 v8 wx => ∃ (tt gg cc : Nat) (d0 d1 d2 d3 d4 d5 : Int), v6 = .pointer (some ⟨tt, 0, none⟩) ∧ v7 = .int .u64 (x : Nat) ∧ v8 = .bool false ∧ Hid (RQt w wx tt gg gb ws [.int .i64 2, .int .i64 1, .int .i64 0, .int .i64 k, .int .i64 2, .int .u64 w0, .int .u64 v0, .int .i64 0] [.int .i64 0, .int .i64 0, .int .i64 0, .int .i64 0, .int .i64 0, .int .u64 0, .int .u64 0, .int .i64 0] [.slice (some ⟨gg, 0, none⟩) L cc, .slice (some ⟨gb, 0, none⟩) L L, .int .i64 d0, .int .i64 d1, .int .i64 d2, .int .i64 d3, .int .i64 d4, .int .i64 d5, .int .i64 (-1), .bool false] [.slice none 0 0, .slice none 0 0, .int .i64 0, .int .i64 0, .int .i64 0, .int .i64 0, .int .i64 0, .int .i64 0, .int .i64 0, .bool false]))
  case first =>
    refine wp_region_held_drew (S := (fun w' => w'.cell? ⟨w.heap.size, 0, none⟩ = some (.int .i64 2) ∧ w'.cell? ⟨w.heap.size, 1, none⟩ = some (.int .i64 1) ∧ w'.cell? ⟨w.heap.size, 2, none⟩ = some (.int .i64 0) ∧ w'.cell? ⟨w.heap.size, 3, none⟩ = some (.int .i64 k) ∧ w'.cell? ⟨w.heap.size, 4, none⟩ = some (.int .i64 2) ∧ w'.cell? ⟨w.heap.size, 5, none⟩ = some (.int .u64 w0) ∧ w'.cell? ⟨w.heap.size, 6, none⟩ = some (.int .u64 v0) ∧ w'.cell? ⟨w.heap.size, 7, none⟩ = some (.int .i64 0) ∧ w'.cell? ⟨w.heap.size + 1, 0, none⟩ = some (.slice (some ⟨gw, 0, none⟩) L cw) ∧ w'.cell? ⟨w.heap.size + 1, 1, none⟩ = some (.slice (some ⟨gb, 0, none⟩) L L) ∧ w'.cell? ⟨w.heap.size + 1, 2, none⟩ = some (.int .i64 c0) ∧ w'.cell? ⟨w.heap.size + 1, 3, none⟩ = some (.int .i64 c1) ∧ w'.cell? ⟨w.heap.size + 1, 4, none⟩ = some (.int .i64 c2) ∧ w'.cell? ⟨w.heap.size + 1, 5, none⟩ = some (.int .i64 c3) ∧ w'.cell? ⟨w.heap.size + 1, 6, none⟩ = some (.int .i64 c4) ∧ w'.cell? ⟨w.heap.size + 1, 7, none⟩ = some (.int .i64 c5) ∧ w'.cell? ⟨w.heap.size + 1, 8, none⟩ = some (.int .i64 (-1)) ∧ w'.cell? ⟨w.heap.size + 1, 9, none⟩ = some (.bool false))) (by kernel_rfl) (rst_cells HS.out.drew) (fun hH0 => ?_)
    refine take_first 0 (some 16) ?_ rfl rfl (by kernel_rfl) (by kernel_rfl) (by kernel_rfl) (fun _ _ _ h => h) rfl ?hy hH0 ?_
    case hy => (intro w0 hS0; (try dsimp only at hS0); (try go_simp); try with_reducible rfl)
    try simp only [Act.put, List.setIfInBounds_toArray, List.set_cons_zero, List.set_cons_succ]
    refine take_first 1 (some 17) ?_ rfl rfl (by kernel_rfl) (by kernel_rfl) (by kernel_rfl) (fun _ _ _ h => h) rfl ?hy hH0 ?_
    case hy => (intro w0 hS0; (try dsimp only at hS0); (try go_simp); try with_reducible rfl)
    try simp only [Act.put, List.setIfInBounds_toArray, List.set_cons_zero, List.set_cons_succ]
    refine wpAnyH_ready (rs := [2, 8]) (by kernel_rfl) (by simp) (AllReadyH.cons rfl (fun K hK => ?c2x0) (AllReadyH.cons rfl (fun K hK => ?c8x0) AllReadyH.nil))
    case c2x0 =>
      have h0 := HS.out.drew
      generalize W1.drew = wq at h0 hK ⊢
      have HSQ := Lib.hid h0
      clear h0
      go_simp
      refine (HU.out _).mono ?_; rintro e wu ⟨rfl, hb⟩
      have HSQ := Lib.hid (HSQ.out.below hb)
      clear hb
      refine hK.out _ _ (rst_cells HSQ.out) (fun hH1 => ?_)
      clear hK hH0
      try simp only [Act.put, List.setIfInBounds_toArray, List.set_cons_zero, List.set_cons_succ]
      refine wpAnyH_ready (rs := [3, 8]) (by kernel_rfl) (by simp) (AllReadyH.cons rfl (fun K hK => ?c3x1) (AllReadyH.cons rfl (fun K hK => ?c8x1) AllReadyH.nil))
      case c3x1 =>
        go_simp
        refine (HMS.out _ (HM.out.below HSQ.out.b)).mono ?_; rintro e wv hto
        obtain ⟨gg, cc, d0, d1, d2, d3, d4, d5, he, hr, hgg, hb⟩ := hto
        (try simp only [List.length_set] at he hr)
        rw [HL.out] at he
        subst he
        have hg1 : w.heap.size ≤ gg ∧ gg ≠ w.heap.size ∧ gg ≠ w.heap.size + 1 + 1 ∧ gg ≠ w.heap.size + 1 + 1 + 1 := by have := HSQ.out.o.lt; have := HSQ.out.z.lt; have := HSQ.out.y.lt; have := HSQ.out.b.size; omega
        have HRR := Lib.hid (And.intro hr hg1)
        have HSQ := Lib.hid (HSQ.out.below hb)
        clear hr hgg hb hg1
        refine hK.out _ _ (rst_cells HSQ.out) (fun hH2 => ?_)
        clear hK hH1
        try simp only [Act.put, List.setIfInBounds_toArray, List.set_cons_zero, List.set_cons_succ]
        refine take_first 4 (some 15) ?_ rfl rfl (by kernel_rfl) (by kernel_rfl) (by kernel_rfl) (fun _ _ _ h => h) rfl ?hy hH2 ?_
        case hy => (intro w0 hS0; (try dsimp only at hS0); (try go_simp); try with_reducible rfl)
        try simp only [Act.put, List.setIfInBounds_toArray, List.set_cons_zero, List.set_cons_succ]
        refine take_first 5 (some 20) ?_ rfl rfl (by kernel_rfl) (by kernel_rfl) (by kernel_rfl) (fun _ _ _ h => h) rfl ?hy hH2 ?_
        case hy => (intro w0 hS0; (try dsimp only at hS0); (try go_simp); try with_reducible rfl)
        try simp only [Act.put, List.setIfInBounds_toArray, List.set_cons_zero, List.set_cons_succ]
        refine take_first 6 (some 21) ?_ rfl rfl (by kernel_rfl) (by kernel_rfl) (by kernel_rfl) (fun _ _ _ h => h) rfl ?hy hH2 ?_
        case hy => (intro w0 hS0; (try dsimp only at hS0); (try go_simp); try with_reducible rfl)
        try simp only [Act.put, List.setIfInBounds_toArray, List.set_cons_zero, List.set_cons_succ]
        refine take_first 7 (some 22) ?_ rfl rfl (by kernel_rfl) (by kernel_rfl) (by kernel_rfl) (fun _ _ _ h => h) rfl ?hy hH2 ?_
        case hy => (intro w0 hS0; (try dsimp only at hS0); (try go_simp); try with_reducible rfl)
        try simp only [Act.put, List.setIfInBounds_toArray, List.set_cons_zero, List.set_cons_succ]
        refine wpAnyH_ready (rs := [8]) (by kernel_rfl) (by simp) (AllReadyH.cons rfl (fun K hK => ?_) AllReadyH.nil)
        go_simp
        have bt := blk_new wv 34 #[.slice none 0 0, .slice none 0 0, .int .i64 0, .int .i64 0, .int .i64 0, .int .i64 0, .int .i64 0, .int .i64 0, .int .i64 0, .bool false] _ rfl
        have hs := HSQ.out.below (bnew (Below.refl _ _) (Obj.cells #[.slice none 0 0, .slice none 0 0, .int .i64 0, .int .i64 0, .int .i64 0, .int .i64 0, .int .i64 0, .int .i64 0, .int .i64 0, .bool false] 34))
        have hlt : w.heap.size + 1 + 1 + 1 < wv.heap.size := HSQ.out.y.lt
        have hr := HRR.out.1.below (bnew (Below.refl _ _) (Obj.cells #[.slice none 0 0, .slice none 0 0, .int .i64 0, .int .i64 0, .int .i64 0, .int .i64 0, .int .i64 0, .int .i64 0, .int .i64 0, .bool false] 34))
        have hg2 : gg ≠ wv.heap.size := by obtain ⟨_, hgb⟩ := HRR.out.1.words; have := hgb.lt; omega
        generalize wv.alloc (Obj.cells #[.slice none 0 0, .slice none 0 0, .int .i64 0, .int .i64 0, .int .i64 0, .int .i64 0, .int .i64 0, .int .i64 0, .int .i64 0, .bool false] 34) = wa at bt hs hr hK ⊢
        generalize wv.heap.size = tt at bt hlt hg2 hK ⊢
        have HSQ := Lib.hid hs
        have HBT := Lib.hid (And.intro bt hlt)
        have HRR := Lib.hid (And.intro hr (And.intro HRR.out.2 hg2))
        clear hr hg2
        clear bt hs hlt
        refine hK.out _ _ (rst_cells HSQ.out) (fun hH3 => ?_)
        clear hK hH2
        try simp only [Act.put, List.setIfInBounds_toArray, List.set_cons_zero, List.set_cons_succ]
        refine wpAnyH_ready (rs := [9]) (by kernel_rfl) (by simp) (AllReadyH.cons rfl (fun K hK => ?_) AllReadyH.nil)
        obtain ⟨y0, y1, y2, y3, y4, y5, y6, y7, y8, y9, z0, z1, z2, z3, z4, z5, z6, z7, z8, z9⟩ := cf10 HBT.out.1
        go_simp
        clear y0 z0 y1 z1 y2 z2 y3 z3 y4 z4 y5 z5 y6 z6 y7 z7 y8 z8 y9 z9
        obtain ⟨bt, hc⟩ := set10 HBT.out.1 (.slice (some ⟨gg, 0, none⟩) L cc) (.slice (some ⟨gb, 0, none⟩) L L) (.int .i64 d0) (.int .i64 d1) (.int .i64 d2) (.int .i64 d3) (.int .i64 d4) (.int .i64 d5) (.int .i64 (-1)) (.bool false)
        have hs := HSQ.out.chg HBT.out.2 hc
        have hr := HRR.out.1.chg hc (fun e => HRR.out.2.2 e) (fun e => by have := HM.out.marks.lt; have := HBT.out.2; omega)
        generalize ((((((((((wa.setCell ⟨tt, 0, none⟩ (.slice (some ⟨gg, 0, none⟩) L cc)).setCell ⟨tt, 1, none⟩ (.slice (some ⟨gb, 0, none⟩) L L)).setCell ⟨tt, 2, none⟩ (.int .i64 d0)).setCell ⟨tt, 3, none⟩ (.int .i64 d1)).setCell ⟨tt, 4, none⟩ (.int .i64 d2)).setCell ⟨tt, 5, none⟩ (.int .i64 d3)).setCell ⟨tt, 6, none⟩ (.int .i64 d4)).setCell ⟨tt, 7, none⟩ (.int .i64 d5)).setCell ⟨tt, 8, none⟩ (.int .i64 (-1))).setCell ⟨tt, 9, none⟩ (.bool false)) = wt at bt hs hr hK ⊢
        have HSQ := Lib.hid hs
        have HQT : Hid (RQt w wt tt gg gb ws [.int .i64 2, .int .i64 1, .int .i64 0, .int .i64 k, .int .i64 2, .int .u64 w0, .int .u64 v0, .int .i64 0] [.int .i64 0, .int .i64 0, .int .i64 0, .int .i64 0, .int .i64 0, .int .u64 0, .int .u64 0, .int .i64 0] [.slice (some ⟨gg, 0, none⟩) L cc, .slice (some ⟨gb, 0, none⟩) L L, .int .i64 d0, .int .i64 d1, .int .i64 d2, .int .i64 d3, .int .i64 d4, .int .i64 d5, .int .i64 (-1), .bool false] [.slice none 0 0, .slice none 0 0, .int .i64 0, .int .i64 0, .int .i64 0, .int .i64 0, .int .i64 0, .int .i64 0, .int .i64 0, .bool false]) := Lib.hid ⟨hs.o, hs.z, hs.y, bt, hs.b, hr, HBT.out.2, HM.out.marks.lt, HRR.out.2.1.1, HRR.out.2.1.2.1, HRR.out.2.1.2.2.1, HRR.out.2.1.2.2.2, HRR.out.2.2⟩
        clear bt hc hs hr
        refine hK.out _ _ (rst_cells HSQ.out) (fun hH4 => ?_)
        clear hK hH3
        try simp only [Act.put, List.setIfInBounds_toArray, List.set_cons_zero, List.set_cons_succ]
        refine take_first 10 (some 7) ?_ rfl rfl (by kernel_rfl) (by kernel_rfl) (by kernel_rfl) (fun _ _ _ h => h) rfl ?hy hH4 ?_
        case hy => (intro w0 hS0; (try dsimp only at hS0); (try go_simp); try with_reducible rfl)
        try simp only [Act.put, List.setIfInBounds_toArray, List.set_cons_zero, List.set_cons_succ]
        refine take_first 11 (some 8) ?_ rfl rfl (by kernel_rfl) (by kernel_rfl) (by kernel_rfl) (fun _ _ _ h => h) rfl ?hy hH4 ?_
        case hy => (intro w0 hS0; (try dsimp only at hS0); (try go_simp); try with_reducible rfl)
        try simp only [Act.put, List.setIfInBounds_toArray, List.set_cons_zero, List.set_cons_succ]
        refine wpAnyH_done (by kernel_rfl) ?_ _
        clear hH4 HSQ HBT HRR
        go_wp2
        go_meet
        case rel => exact ⟨tt, gg, cc, d0, d1, d2, d3, d4, d5, rfl, rfl, rfl, HQT⟩
      case c8x1 =>
        go_simp
        have bt := blk_new wu 34 #[.slice none 0 0, .slice none 0 0, .int .i64 0, .int .i64 0, .int .i64 0, .int .i64 0, .int .i64 0, .int .i64 0, .int .i64 0, .bool false] _ rfl
        have hs := HSQ.out.below (bnew (Below.refl _ _) (Obj.cells #[.slice none 0 0, .slice none 0 0, .int .i64 0, .int .i64 0, .int .i64 0, .int .i64 0, .int .i64 0, .int .i64 0, .int .i64 0, .bool false] 34))
        have hlt : w.heap.size + 1 + 1 + 1 < wu.heap.size := HSQ.out.y.lt
        generalize wu.alloc (Obj.cells #[.slice none 0 0, .slice none 0 0, .int .i64 0, .int .i64 0, .int .i64 0, .int .i64 0, .int .i64 0, .int .i64 0, .int .i64 0, .bool false] 34) = wa at bt hs  hK ⊢
        generalize wu.heap.size = tt at bt hlt  hK ⊢
        have HSQ := Lib.hid hs
        have HBT := Lib.hid (And.intro bt hlt)
        clear bt hs hlt
        refine hK.out _ _ (rst_cells HSQ.out) (fun hH2 => ?_)
        clear hK hH1
        try simp only [Act.put, List.setIfInBounds_toArray, List.set_cons_zero, List.set_cons_succ]
        refine wpAnyH_ready (rs := [3]) (by kernel_rfl) (by simp) (AllReadyH.cons rfl (fun K hK => ?_) AllReadyH.nil)
        go_simp
        refine (HMS.out _ (HM.out.below HSQ.out.b)).mono ?_; rintro e wv hto
        obtain ⟨gg, cc, d0, d1, d2, d3, d4, d5, he, hr, hgg, hb⟩ := hto
        (try simp only [List.length_set] at he hr)
        rw [HL.out] at he
        subst he
        have hg1 : w.heap.size ≤ gg ∧ gg ≠ w.heap.size ∧ gg ≠ w.heap.size + 1 + 1 ∧ gg ≠ w.heap.size + 1 + 1 + 1 := by have := HSQ.out.o.lt; have := HSQ.out.z.lt; have := HSQ.out.y.lt; have := HSQ.out.b.size; omega
        have hg2 : gg ≠ tt := by have := HBT.out.1.lt; omega
        have HBT := Lib.hid (And.intro (HBT.out.1.chg (chg_of_below (fun _ => False) hb) (fun h => h)) HBT.out.2)
        have HRR := Lib.hid (And.intro hr (And.intro hg1 hg2))
        clear hg2
        have HSQ := Lib.hid (HSQ.out.below hb)
        clear hr hgg hb hg1
        refine hK.out _ _ (rst_cells HSQ.out) (fun hH3 => ?_)
        clear hK hH2
        try simp only [Act.put, List.setIfInBounds_toArray, List.set_cons_zero, List.set_cons_succ]
        refine take_first 4 (some 15) ?_ rfl rfl (by kernel_rfl) (by kernel_rfl) (by kernel_rfl) (fun _ _ _ h => h) rfl ?hy hH3 ?_
        case hy => (intro w0 hS0; (try dsimp only at hS0); (try go_simp); try with_reducible rfl)
        try simp only [Act.put, List.setIfInBounds_toArray, List.set_cons_zero, List.set_cons_succ]
        refine take_first 5 (some 20) ?_ rfl rfl (by kernel_rfl) (by kernel_rfl) (by kernel_rfl) (fun _ _ _ h => h) rfl ?hy hH3 ?_
        case hy => (intro w0 hS0; (try dsimp only at hS0); (try go_simp); try with_reducible rfl)
        try simp only [Act.put, List.setIfInBounds_toArray, List.set_cons_zero, List.set_cons_succ]
        refine take_first 6 (some 21) ?_ rfl rfl (by kernel_rfl) (by kernel_rfl) (by kernel_rfl) (fun _ _ _ h => h) rfl ?hy hH3 ?_
        case hy => (intro w0 hS0; (try dsimp only at hS0); (try go_simp); try with_reducible rfl)
        try simp only [Act.put, List.setIfInBounds_toArray, List.set_cons_zero, List.set_cons_succ]
        refine take_first 7 (some 22) ?_ rfl rfl (by kernel_rfl) (by kernel_rfl) (by kernel_rfl) (fun _ _ _ h => h) rfl ?hy hH3 ?_
        case hy => (intro w0 hS0; (try dsimp only at hS0); (try go_simp); try with_reducible rfl)
        try simp only [Act.put, List.setIfInBounds_toArray, List.set_cons_zero, List.set_cons_succ]
        refine wpAnyH_ready (rs := [9]) (by kernel_rfl) (by simp) (AllReadyH.cons rfl (fun K hK => ?_) AllReadyH.nil)
        obtain ⟨y0, y1, y2, y3, y4, y5, y6, y7, y8, y9, z0, z1, z2, z3, z4, z5, z6, z7, z8, z9⟩ := cf10 HBT.out.1
        go_simp
        clear y0 z0 y1 z1 y2 z2 y3 z3 y4 z4 y5 z5 y6 z6 y7 z7 y8 z8 y9 z9
        obtain ⟨bt, hc⟩ := set10 HBT.out.1 (.slice (some ⟨gg, 0, none⟩) L cc) (.slice (some ⟨gb, 0, none⟩) L L) (.int .i64 d0) (.int .i64 d1) (.int .i64 d2) (.int .i64 d3) (.int .i64 d4) (.int .i64 d5) (.int .i64 (-1)) (.bool false)
        have hs := HSQ.out.chg HBT.out.2 hc
        have hr := HRR.out.1.chg hc (fun e => HRR.out.2.2 e) (fun e => by have := HM.out.marks.lt; have := HBT.out.2; omega)
        generalize ((((((((((wv.setCell ⟨tt, 0, none⟩ (.slice (some ⟨gg, 0, none⟩) L cc)).setCell ⟨tt, 1, none⟩ (.slice (some ⟨gb, 0, none⟩) L L)).setCell ⟨tt, 2, none⟩ (.int .i64 d0)).setCell ⟨tt, 3, none⟩ (.int .i64 d1)).setCell ⟨tt, 4, none⟩ (.int .i64 d2)).setCell ⟨tt, 5, none⟩ (.int .i64 d3)).setCell ⟨tt, 6, none⟩ (.int .i64 d4)).setCell ⟨tt, 7, none⟩ (.int .i64 d5)).setCell ⟨tt, 8, none⟩ (.int .i64 (-1))).setCell ⟨tt, 9, none⟩ (.bool false)) = wt at bt hs hr hK ⊢
        have HSQ := Lib.hid hs
        have HQT : Hid (RQt w wt tt gg gb ws [.int .i64 2, .int .i64 1, .int .i64 0, .int .i64 k, .int .i64 2, .int .u64 w0, .int .u64 v0, .int .i64 0] [.int .i64 0, .int .i64 0, .int .i64 0, .int .i64 0, .int .i64 0, .int .u64 0, .int .u64 0, .int .i64 0] [.slice (some ⟨gg, 0, none⟩) L cc, .slice (some ⟨gb, 0, none⟩) L L, .int .i64 d0, .int .i64 d1, .int .i64 d2, .int .i64 d3, .int .i64 d4, .int .i64 d5, .int .i64 (-1), .bool false] [.slice none 0 0, .slice none 0 0, .int .i64 0, .int .i64 0, .int .i64 0, .int .i64 0, .int .i64 0, .int .i64 0, .int .i64 0, .bool false]) := Lib.hid ⟨hs.o, hs.z, hs.y, bt, hs.b, hr, HBT.out.2, HM.out.marks.lt, HRR.out.2.1.1, HRR.out.2.1.2.1, HRR.out.2.1.2.2.1, HRR.out.2.1.2.2.2, HRR.out.2.2⟩
        clear bt hc hs hr
        refine hK.out _ _ (rst_cells HSQ.out) (fun hH4 => ?_)
        clear hK hH3
        try simp only [Act.put, List.setIfInBounds_toArray, List.set_cons_zero, List.set_cons_succ]
        refine take_first 10 (some 7) ?_ rfl rfl (by kernel_rfl) (by kernel_rfl) (by kernel_rfl) (fun _ _ _ h => h) rfl ?hy hH4 ?_
        case hy => (intro w0 hS0; (try dsimp only at hS0); (try go_simp); try with_reducible rfl)
        try simp only [Act.put, List.setIfInBounds_toArray, List.set_cons_zero, List.set_cons_succ]
        refine take_first 11 (some 8) ?_ rfl rfl (by kernel_rfl) (by kernel_rfl) (by kernel_rfl) (fun _ _ _ h => h) rfl ?hy hH4 ?_
        case hy => (intro w0 hS0; (try dsimp only at hS0); (try go_simp); try with_reducible rfl)
        try simp only [Act.put, List.setIfInBounds_toArray, List.set_cons_zero, List.set_cons_succ]
        refine wpAnyH_done (by kernel_rfl) ?_ _
        clear hH4 HSQ HBT HRR
        go_wp2
        go_meet
        case rel => exact ⟨tt, gg, cc, d0, d1, d2, d3, d4, d5, rfl, rfl, rfl, HQT⟩
    case c8x0 =>
      have h0 := HS.out.drew
      generalize W1.drew = wq at h0 hK ⊢
      have HSQ := Lib.hid h0
      clear h0
      go_simp
      have bt := blk_new wq 34 #[.slice none 0 0, .slice none 0 0, .int .i64 0, .int .i64 0, .int .i64 0, .int .i64 0, .int .i64 0, .int .i64 0, .int .i64 0, .bool false] _ rfl
      have hs := HSQ.out.below (bnew (Below.refl _ _) (Obj.cells #[.slice none 0 0, .slice none 0 0, .int .i64 0, .int .i64 0, .int .i64 0, .int .i64 0, .int .i64 0, .int .i64 0, .int .i64 0, .bool false] 34))
      have hlt : w.heap.size + 1 + 1 + 1 < wq.heap.size := HSQ.out.y.lt
      generalize wq.alloc (Obj.cells #[.slice none 0 0, .slice none 0 0, .int .i64 0, .int .i64 0, .int .i64 0, .int .i64 0, .int .i64 0, .int .i64 0, .int .i64 0, .bool false] 34) = wa at bt hs  hK ⊢
      generalize wq.heap.size = tt at bt hlt  hK ⊢
      have HSQ := Lib.hid hs
      have HBT := Lib.hid (And.intro bt hlt)
      clear bt hs hlt
      refine hK.out _ _ (rst_cells HSQ.out) (fun hH1 => ?_)
      clear hK hH0
      try simp only [Act.put, List.setIfInBounds_toArray, List.set_cons_zero, List.set_cons_succ]
      refine wpAnyH_ready (rs := [2]) (by kernel_rfl) (by simp) (AllReadyH.cons rfl (fun K hK => ?_) AllReadyH.nil)
      go_simp
      refine (HU.out _).mono ?_; rintro e wu ⟨rfl, hb⟩
      have HSQ := Lib.hid (HSQ.out.below hb)
      have HBT := Lib.hid (And.intro (HBT.out.1.chg (chg_of_below (fun _ => False) hb) (fun h => h)) HBT.out.2)
      clear hb
      refine hK.out _ _ (rst_cells HSQ.out) (fun hH2 => ?_)
      clear hK hH1
      try simp only [Act.put, List.setIfInBounds_toArray, List.set_cons_zero, List.set_cons_succ]
      refine wpAnyH_ready (rs := [3]) (by kernel_rfl) (by simp) (AllReadyH.cons rfl (fun K hK => ?_) AllReadyH.nil)
      go_simp
      refine (HMS.out _ (HM.out.below HSQ.out.b)).mono ?_; rintro e wv hto
      obtain ⟨gg, cc, d0, d1, d2, d3, d4, d5, he, hr, hgg, hb⟩ := hto
      (try simp only [List.length_set] at he hr)
      rw [HL.out] at he
      subst he
      have hg1 : w.heap.size ≤ gg ∧ gg ≠ w.heap.size ∧ gg ≠ w.heap.size + 1 + 1 ∧ gg ≠ w.heap.size + 1 + 1 + 1 := by have := HSQ.out.o.lt; have := HSQ.out.z.lt; have := HSQ.out.y.lt; have := HSQ.out.b.size; omega
      have hg2 : gg ≠ tt := by have := HBT.out.1.lt; omega
      have HBT := Lib.hid (And.intro (HBT.out.1.chg (chg_of_below (fun _ => False) hb) (fun h => h)) HBT.out.2)
      have HRR := Lib.hid (And.intro hr (And.intro hg1 hg2))
      clear hg2
      have HSQ := Lib.hid (HSQ.out.below hb)
      clear hr hgg hb hg1
      refine hK.out _ _ (rst_cells HSQ.out) (fun hH3 => ?_)
      clear hK hH2
      try simp only [Act.put, List.setIfInBounds_toArray, List.set_cons_zero, List.set_cons_succ]
      refine take_first 4 (some 15) ?_ rfl rfl (by kernel_rfl) (by kernel_rfl) (by kernel_rfl) (fun _ _ _ h => h) rfl ?hy hH3 ?_
      case hy => (intro w0 hS0; (try dsimp only at hS0); (try go_simp); try with_reducible rfl)
      try simp only [Act.put, List.setIfInBounds_toArray, List.set_cons_zero, List.set_cons_succ]
      refine take_first 5 (some 20) ?_ rfl rfl (by kernel_rfl) (by kernel_rfl) (by kernel_rfl) (fun _ _ _ h => h) rfl ?hy hH3 ?_
      case hy => (intro w0 hS0; (try dsimp only at hS0); (try go_simp); try with_reducible rfl)
      try simp only [Act.put, List.setIfInBounds_toArray, List.set_cons_zero, List.set_cons_succ]
      refine take_first 6 (some 21) ?_ rfl rfl (by kernel_rfl) (by kernel_rfl) (by kernel_rfl) (fun _ _ _ h => h) rfl ?hy hH3 ?_
      case hy => (intro w0 hS0; (try dsimp only at hS0); (try go_simp); try with_reducible rfl)
      try simp only [Act.put, List.setIfInBounds_toArray, List.set_cons_zero, List.set_cons_succ]
      refine take_first 7 (some 22) ?_ rfl rfl (by kernel_rfl) (by kernel_rfl) (by kernel_rfl) (fun _ _ _ h => h) rfl ?hy hH3 ?_
      case hy => (intro w0 hS0; (try dsimp only at hS0); (try go_simp); try with_reducible rfl)
      try simp only [Act.put, List.setIfInBounds_toArray, List.set_cons_zero, List.set_cons_succ]
      refine wpAnyH_ready (rs := [9]) (by kernel_rfl) (by simp) (AllReadyH.cons rfl (fun K hK => ?_) AllReadyH.nil)
      obtain ⟨y0, y1, y2, y3, y4, y5, y6, y7, y8, y9, z0, z1, z2, z3, z4, z5, z6, z7, z8, z9⟩ := cf10 HBT.out.1
      go_simp
      clear y0 z0 y1 z1 y2 z2 y3 z3 y4 z4 y5 z5 y6 z6 y7 z7 y8 z8 y9 z9
      obtain ⟨bt, hc⟩ := set10 HBT.out.1 (.slice (some ⟨gg, 0, none⟩) L cc) (.slice (some ⟨gb, 0, none⟩) L L) (.int .i64 d0) (.int .i64 d1) (.int .i64 d2) (.int .i64 d3) (.int .i64 d4) (.int .i64 d5) (.int .i64 (-1)) (.bool false)
      have hs := HSQ.out.chg HBT.out.2 hc
      have hr := HRR.out.1.chg hc (fun e => HRR.out.2.2 e) (fun e => by have := HM.out.marks.lt; have := HBT.out.2; omega)
      generalize ((((((((((wv.setCell ⟨tt, 0, none⟩ (.slice (some ⟨gg, 0, none⟩) L cc)).setCell ⟨tt, 1, none⟩ (.slice (some ⟨gb, 0, none⟩) L L)).setCell ⟨tt, 2, none⟩ (.int .i64 d0)).setCell ⟨tt, 3, none⟩ (.int .i64 d1)).setCell ⟨tt, 4, none⟩ (.int .i64 d2)).setCell ⟨tt, 5, none⟩ (.int .i64 d3)).setCell ⟨tt, 6, none⟩ (.int .i64 d4)).setCell ⟨tt, 7, none⟩ (.int .i64 d5)).setCell ⟨tt, 8, none⟩ (.int .i64 (-1))).setCell ⟨tt, 9, none⟩ (.bool false)) = wt at bt hs hr hK ⊢
      have HSQ := Lib.hid hs
      have HQT : Hid (RQt w wt tt gg gb ws [.int .i64 2, .int .i64 1, .int .i64 0, .int .i64 k, .int .i64 2, .int .u64 w0, .int .u64 v0, .int .i64 0] [.int .i64 0, .int .i64 0, .int .i64 0, .int .i64 0, .int .i64 0, .int .u64 0, .int .u64 0, .int .i64 0] [.slice (some ⟨gg, 0, none⟩) L cc, .slice (some ⟨gb, 0, none⟩) L L, .int .i64 d0, .int .i64 d1, .int .i64 d2, .int .i64 d3, .int .i64 d4, .int .i64 d5, .int .i64 (-1), .bool false] [.slice none 0 0, .slice none 0 0, .int .i64 0, .int .i64 0, .int .i64 0, .int .i64 0, .int .i64 0, .int .i64 0, .int .i64 0, .bool false]) := Lib.hid ⟨hs.o, hs.z, hs.y, bt, hs.b, hr, HBT.out.2, HM.out.marks.lt, HRR.out.2.1.1, HRR.out.2.1.2.1, HRR.out.2.1.2.2.1, HRR.out.2.1.2.2.2, HRR.out.2.2⟩
      clear bt hc hs hr
      refine hK.out _ _ (rst_cells HSQ.out) (fun hH4 => ?_)
      clear hK hH3
      try simp only [Act.put, List.setIfInBounds_toArray, List.set_cons_zero, List.set_cons_succ]
      refine take_first 10 (some 7) ?_ rfl rfl (by kernel_rfl) (by kernel_rfl) (by kernel_rfl) (fun _ _ _ h => h) rfl ?hy hH4 ?_
      case hy => (intro w0 hS0; (try dsimp only at hS0); (try go_simp); try with_reducible rfl)
      try simp only [Act.put, List.setIfInBounds_toArray, List.set_cons_zero, List.set_cons_succ]
      refine take_first 11 (some 8) ?_ rfl rfl (by kernel_rfl) (by kernel_rfl) (by kernel_rfl) (fun _ _ _ h => h) rfl ?hy hH4 ?_
      case hy => (intro w0 hS0; (try dsimp only at hS0); (try go_simp); try with_reducible rfl)
      try simp only [Act.put, List.setIfInBounds_toArray, List.set_cons_zero, List.set_cons_succ]
      refine wpAnyH_done (by kernel_rfl) ?_ _
      clear hH4 HSQ HBT HRR
      go_wp2
      go_meet
      case rel => exact ⟨tt, gg, cc, d0, d1, d2, d3, d4, d5, rfl, rfl, rfl, HQT⟩
  case rest =>
    obtain ⟨tt, gg, cc, d0, d1, d2, d3, d4, d5, rfl, rfl, rfl, HQ⟩ := hcut
    clear HS HU HMS
    obtain ⟨wx, hwx⟩ : ∃ wx : World, wx = wc := ⟨_, rfl⟩
    rw [← hwx] at HQ ⊢
    clear hwx
    obtain ⟨f0, f1, f2, f3, f4, f5, f6, f7, zf0, zf1, zf2, zf3, zf4, zf5, zf6, zf7⟩ := cf8 HQ.out.o
    go_wp2_with fail
    refine (HNX.out _).mono ?_; rintro e w' ⟨rfl, rfl⟩
    go_upto_region 13 with fail
    clear f0 zf0 f1 zf1 f2 zf2 f3 zf3 f4 zf4 f5 zf5 f6 zf6 f7 zf7
    have b0 : Blk ((wx.setCell ⟨w.heap.size, 6, none⟩ (.int .u64 x)).setCell ⟨w.heap.size, 3, none⟩ (.int .i64 (-1))) (w.heap.size) 44 [.int .i64 2, .int .i64 1, .int .i64 0, .int .i64 (-1), .int .i64 2, .int .u64 w0, .int .u64 x, .int .i64 0] := ((HQ.out.o.set 6 (.int .u64 x)).set 3 (.int .i64 (-1)))
    have hch : Chg (fun j => j = w.heap.size) wx ((wx.setCell ⟨w.heap.size, 6, none⟩ (.int .u64 x)).setCell ⟨w.heap.size, 3, none⟩ (.int .i64 (-1))) := (((Chg.refl (fun j => j = w.heap.size) wx).setCell ⟨w.heap.size, 6, none⟩ (.int .u64 x) (fun _ => rfl)).setCell ⟨w.heap.size, 3, none⟩ (.int .i64 (-1)) (fun _ => rfl))
    have hs := HQ.out.setO b0 hch
    clear b0 hch
    generalize ((wx.setCell ⟨w.heap.size, 6, none⟩ (.int .u64 x)).setCell ⟨w.heap.size, 3, none⟩ (.int .i64 (-1))) = wx at hs ⊢
    have HQ := Lib.hid hs
    clear hs
    refine wp_region_held_drew (S := (fun w' => w'.cell? ⟨w.heap.size, 0, none⟩ = some (.int .i64 2) ∧ w'.cell? ⟨w.heap.size, 1, none⟩ = some (.int .i64 1) ∧ w'.cell? ⟨w.heap.size, 2, none⟩ = some (.int .i64 0) ∧ w'.cell? ⟨w.heap.size, 3, none⟩ = some (.int .i64 (-1)) ∧ w'.cell? ⟨w.heap.size, 4, none⟩ = some (.int .i64 2) ∧ w'.cell? ⟨w.heap.size, 5, none⟩ = some (.int .u64 w0) ∧ w'.cell? ⟨w.heap.size, 6, none⟩ = some (.int .u64 x) ∧ w'.cell? ⟨w.heap.size, 7, none⟩ = some (.int .i64 0) ∧ w'.cell? ⟨tt, 0, none⟩ = some (.slice (some ⟨gg, 0, none⟩) L cc) ∧ w'.cell? ⟨tt, 1, none⟩ = some (.slice (some ⟨gb, 0, none⟩) L L) ∧ w'.cell? ⟨tt, 2, none⟩ = some (.int .i64 d0) ∧ w'.cell? ⟨tt, 3, none⟩ = some (.int .i64 d1) ∧ w'.cell? ⟨tt, 4, none⟩ = some (.int .i64 d2) ∧ w'.cell? ⟨tt, 5, none⟩ = some (.int .i64 d3) ∧ w'.cell? ⟨tt, 6, none⟩ = some (.int .i64 d4) ∧ w'.cell? ⟨tt, 7, none⟩ = some (.int .i64 d5) ∧ w'.cell? ⟨tt, 8, none⟩ = some (.int .i64 (-1)) ∧ w'.cell? ⟨tt, 9, none⟩ = some (.bool false))) (by kernel_rfl) (rqt_cells HQ.out.drew) (fun hH0 => ?_)
    refine take_first 0 (some 61) ?_ rfl rfl (by kernel_rfl) (by kernel_rfl) (by kernel_rfl) (fun _ _ _ h => h) rfl ?hy hH0 ?_
    case hy => (intro w0 hS0; (try dsimp only at hS0); (try go_simp); try with_reducible rfl)
    try simp only [Act.put, List.setIfInBounds_toArray, List.set_cons_zero, List.set_cons_succ]
    refine take_first 1 (some 62) ?_ rfl rfl (by kernel_rfl) (by kernel_rfl) (by kernel_rfl) (fun _ _ _ h => h) rfl ?hy hH0 ?_
    case hy => (intro w0 hS0; (try dsimp only at hS0); (try go_simp); try with_reducible rfl)
    try simp only [Act.put, List.setIfInBounds_toArray, List.set_cons_zero, List.set_cons_succ]
    refine take_first 2 (some 63) ?_ rfl rfl (by kernel_rfl) (by kernel_rfl) (by kernel_rfl) (fun _ _ _ h => h) rfl ?hy hH0 ?_
    case hy => (intro w0 hS0; (try dsimp only at hS0); (try go_simp); try with_reducible rfl)
    try simp only [Act.put, List.setIfInBounds_toArray, List.set_cons_zero, List.set_cons_succ]
    refine take_first 4 (some 65) ?_ rfl rfl (by kernel_rfl) (by kernel_rfl) (by kernel_rfl) (fun _ _ _ h => h) rfl ?hy hH0 ?_
    case hy => (intro w0 hS0; (try dsimp only at hS0); (try go_simp); try with_reducible rfl)
    try simp only [Act.put, List.setIfInBounds_toArray, List.set_cons_zero, List.set_cons_succ]
    refine wpAnyH_ready (rs := [3]) (by kernel_rfl) (by simp) (AllReadyH.cons rfl (fun K hK => ?_) AllReadyH.nil)
    have h0 := HQ.out.drew
    generalize wx.drew = wq at h0 hK ⊢
    have HQ := Lib.hid h0
    clear h0
    go_simp
    refine (rend_calls _ _ _ _ _ _ _ _ _ _ _).mono ?_; rintro e wu ⟨rfl, hb⟩
    have HQ := Lib.hid (HQ.out.below hb)
    clear hb
    refine hK.out _ _ (rqt_cells HQ.out) (fun hH1 => ?_)
    clear hK hH0
    try simp only [Act.put, List.setIfInBounds_toArray, List.set_cons_zero, List.set_cons_succ]
    refine wpAnyH_ready (rs := [5]) (by kernel_rfl) (by simp) (AllReadyH.cons rfl (fun K hK => ?_) AllReadyH.nil)
    obtain ⟨y0, y1, y2, y3, y4, y5, y6, y7, z0, z1, z2, z3, z4, z5, z6, z7⟩ := cf8 HQ.out.z
    go_simp
    clear y0 z0 y1 z1 y2 z2 y3 z3 y4 z4 y5 z5 y6 z6 y7 z7
    obtain ⟨bt, hc⟩ := set8 HQ.out.z (.int .i64 2) (.int .i64 1) (.int .i64 0) (.int .i64 (-1)) (.int .i64 6) (.int .u64 w0) (.int .u64 x) (.int .i64 0)
    have hs := HQ.out.setZ bt hc
    generalize ((((((((wu.setCell ⟨w.heap.size + 1 + 1, 0, none⟩ (.int .i64 2)).setCell ⟨w.heap.size + 1 + 1, 1, none⟩ (.int .i64 1)).setCell ⟨w.heap.size + 1 + 1, 2, none⟩ (.int .i64 0)).setCell ⟨w.heap.size + 1 + 1, 3, none⟩ (.int .i64 (-1))).setCell ⟨w.heap.size + 1 + 1, 4, none⟩ (.int .i64 6)).setCell ⟨w.heap.size + 1 + 1, 5, none⟩ (.int .u64 w0)).setCell ⟨w.heap.size + 1 + 1, 6, none⟩ (.int .u64 x)).setCell ⟨w.heap.size + 1 + 1, 7, none⟩ (.int .i64 0)) = wz at hs hK ⊢
    have HQ := Lib.hid hs
    clear bt hc hs
    refine hK.out _ _ (rqt_cells HQ.out) (fun hH2 => ?_)
    clear hK hH1
    try simp only [Act.put, List.setIfInBounds_toArray, List.set_cons_zero, List.set_cons_succ]
    refine wpAnyH_ready (rs := [6]) (by kernel_rfl) (by simp) (AllReadyH.cons rfl (fun K hK => ?_) AllReadyH.nil)
    obtain ⟨y0, y1, y2, y3, y4, y5, y6, y7, y8, y9, z0, z1, z2, z3, z4, z5, z6, z7, z8, z9⟩ := cf10 HQ.out.y
    go_simp
    clear y0 z0 y1 z1 y2 z2 y3 z3 y4 z4 y5 z5 y6 z6 y7 z7 y8 z8 y9 z9
    obtain ⟨bt, hc⟩ := set10 HQ.out.y (.slice (some ⟨gg, 0, none⟩) L cc) (.slice (some ⟨gb, 0, none⟩) L L) (.int .i64 d0) (.int .i64 d1) (.int .i64 d2) (.int .i64 d3) (.int .i64 d4) (.int .i64 d5) (.int .i64 (-1)) (.bool false)
    have hs := HQ.out.setY bt hc
    generalize ((((((((((wz.setCell ⟨w.heap.size + 1 + 1 + 1, 0, none⟩ (.slice (some ⟨gg, 0, none⟩) L cc)).setCell ⟨w.heap.size + 1 + 1 + 1, 1, none⟩ (.slice (some ⟨gb, 0, none⟩) L L)).setCell ⟨w.heap.size + 1 + 1 + 1, 2, none⟩ (.int .i64 d0)).setCell ⟨w.heap.size + 1 + 1 + 1, 3, none⟩ (.int .i64 d1)).setCell ⟨w.heap.size + 1 + 1 + 1, 4, none⟩ (.int .i64 d2)).setCell ⟨w.heap.size + 1 + 1 + 1, 5, none⟩ (.int .i64 d3)).setCell ⟨w.heap.size + 1 + 1 + 1, 6, none⟩ (.int .i64 d4)).setCell ⟨w.heap.size + 1 + 1 + 1, 7, none⟩ (.int .i64 d5)).setCell ⟨w.heap.size + 1 + 1 + 1, 8, none⟩ (.int .i64 (-1))).setCell ⟨w.heap.size + 1 + 1 + 1, 9, none⟩ (.bool false)) = wy at hs hK ⊢
    have HQ := Lib.hid hs
    clear bt hc hs
    refine hK.out _ _ (rqt_cells HQ.out) (fun hH3 => ?_)
    clear hK hH2
    try simp only [Act.put, List.setIfInBounds_toArray, List.set_cons_zero, List.set_cons_succ]
    refine wpAnyH_done (by kernel_rfl) ?_ _
    clear hH3
    obtain ⟨g0, g1, g2, g3, g4, g5, g6, g7, _, _, _, _, _, _, _, _⟩ := cf8 HQ.out.z
    obtain ⟨l0, l1, l2, l3, l4, l5, l6, l7, l8, l9, _, _, _, _, _, _, _, _, _, _⟩ := cf10 HQ.out.y
    go_wp2
    refine bodyPost_ret (v := .tuple #[.agg #[.int .i64 2, .int .i64 1, .int .i64 0, .int .i64 (-1), .int .i64 6, .int .u64 w0, .int .u64 x, .int .i64 0], .agg #[.slice (some ⟨gg, 0, none⟩) L cc, .slice (some ⟨gb, 0, none⟩) L L, .int .i64 d0, .int .i64 d1, .int .i64 d2, .int .i64 d3, .int .i64 d4, .int .i64 d5, .int .i64 (-1), .bool false]]) (by simp [results, Try.results11, go_sem, g0, g1, g2, g3, g4, g5, g6, g7, l0, l1, l2, l3, l4, l5, l6, l7, l8, l9]) rfl ⟨gg, cc, d0, d1, d2, d3, d4, d5, by (try rw [List.length_set]); rw [HL.out], HQ.out.r, .inr HQ.out.g0, HQ.out.b⟩
set_option maxHeartbeats 8000000 in
set_option maxRecDepth 100000 in
theorem rstep22da (gw cw gb : Nat) (c0 c1 c2 c3 c4 c5 : Int) (ws : List Nat) (k w0 v0 : Nat) (w : World) (hm : RefAt w gw gb ws) (hk : k < 8) (x : Nat) (hx : ws.getD (2 + k) 0 = x) (ha : (2 + k) < ws.length) (hw : w0 < 18446744073709551616) (hmn : ¬ x < v0) (q : Nat) (hq : rnext w0 (k + 1) = (q : Int)) :
    Calls Try.prog 11 #[.agg #[.int .i64 2, .int .i64 1, .int .i64 0, .int .i64 k, .int .i64 2, .int .u64 w0, .int .u64 v0, .int .i64 0], .agg #[.slice (some ⟨gw, 0, none⟩) ws.length cw, .slice (some ⟨gb, 0, none⟩) ws.length ws.length, .int .i64 c0, .int .i64 c1, .int .i64 c2, .int .i64 c3, .int .i64 c4, .int .i64 c5, .int .i64 (-1), .bool false]] w fun e w' => RefTold19 w gw gb ws [.int .i64 2, .int .i64 1, .int .i64 0, .int .i64 q, .int .i64 2, .int .u64 w0, .int .u64 v0, .int .i64 0] e w' := by
  have HM := Lib.hid hm
  have k8 : (k : Int) < 8 := by omega
  have HK := Lib.hid hk
  have HA := Lib.hid ha
  have hx64 : x < 18446744073709551616 := by rw [← hx]; exact hm.getD_lt (2 + k)
  have HX := Lib.hid hx
  have hnx := fun W => rnext_calls w0 (k + 1) W (by omega) hw
  rw [hq] at hnx
  rw [show ((k + 1 : Nat) : Int) = (k : Int) + 1 from rfl] at hnx
  have HNX := Lib.hid hnx
  have tq : decide ((q : Int) < 0) = false := by simp
  have hmi : ¬ (x : Int) < (v0 : Int) := by omega
  clear hnx hq hx64 hx ha hw hmn
  have HU := Lib.hid (fun W => ruse22 k w0 v0 0 W HK.out)
  have HMS := Lib.hid (fun W (h : RefAt W gw gb ws) => by have hh := refload_same gw cw gb c0 c1 c2 c3 c4 c5 ws (2 + k) W h HA.out; rw [HX.out] at hh; exact hh)
  obtain ⟨L, hL⟩ : ∃ L, ws.length = L := ⟨_, rfl⟩
  rw [hL] at HMS ⊢
  have HL := Lib.hid hL
  clear hm hk hL
  go_enter Try.func11, Try.ntmps11
  go_upto_region 3 with fail
  have hs := rst_new w (.int .i64 2) (.int .i64 1) (.int .i64 0) (.int .i64 k) (.int .i64 2) (.int .u64 w0) (.int .u64 v0) (.int .i64 0) (.slice (some ⟨gw, 0, none⟩) L cw) (.slice (some ⟨gb, 0, none⟩) L L) (.int .i64 c0) (.int .i64 c1) (.int .i64 c2) (.int .i64 c3) (.int .i64 c4) (.int .i64 c5) (.int .i64 (-1)) (.bool false)
  generalize (((w.alloc (Obj.cells #[.int .i64 2, .int .i64 1, .int .i64 0, .int .i64 k, .int .i64 2, .int .u64 w0, .int .u64 v0, .int .i64 0] 44)).alloc (Obj.cells #[.slice (some ⟨gw, 0, none⟩) L cw, .slice (some ⟨gb, 0, none⟩) L L, .int .i64 c0, .int .i64 c1, .int .i64 c2, .int .i64 c3, .int .i64 c4, .int .i64 c5, .int .i64 (-1), .bool false] 34)).alloc (Obj.cells #[.int .i64 0, .int .i64 0, .int .i64 0, .int .i64 0, .int .i64 0, .int .u64 0, .int .u64 0, .int .i64 0] 44)).alloc (Obj.cells #[.slice none 0 0, .slice none 0 0, .int .i64 0, .int .i64 0, .int .i64 0, .int .i64 0, .int .i64 0, .int .i64 0, .int .i64 0, .bool false] 34) = W1 at hs ⊢
  have HS := Lib.hid hs
  clear hs
  go_cut [6, 7, 8] (fun v6 v7 v8 wx => ∃ (tt gg cc : Nat) (d0 d1 d2 d3 d4 d5 : Int), v6 = .pointer (some ⟨tt, 0, none⟩) ∧ v7 = .int .u64 (x : Nat) ∧ v8 = .bool false ∧ Hid (RQt w wx tt gg gb ws [.int .i64 2, .int .i64 1, .int .i64 0, .int .i64 k, .int .i64 2, .int .u64 w0, .int .u64 v0, .int .i64 0] [.int .i64 0, .int .i64 0, .int .i64 0, .int .i64 0, .int .i64 0, .int .u64 0, .int .u64 0, .int .i64 0] [.slice (some ⟨gg, 0, none⟩) L cc, .slice (some ⟨gb, 0, none⟩) L L, .int .i64 d0, .int .i64 d1, .int .i64 d2, .int .i64 d3, .int .i64 d4, .int .i64 d5, .int .i64 (-1), .bool false] [.slice none 0 0, .slice none 0 0, .int .i64 0, .int .i64 0, .int .i64 0, .int .i64 0, .int .i64 0, .int .i64 0, .int .i64 0, .bool false]))
  case first =>
    refine wp_region_held_drew (S := (fun w' => w'.cell? ⟨w.heap.size, 0, none⟩ = some (.int .i64 2) ∧ w'.cell? ⟨w.heap.size, 1, none⟩ = some (.int .i64 1) ∧ w'.cell? ⟨w.heap.size, 2, none⟩ = some (.int .i64 0) ∧ w'.cell? ⟨w.heap.size, 3, none⟩ = some (.int .i64 k) ∧ w'.cell? ⟨w.heap.size, 4, none⟩ = some (.int .i64 2) ∧ w'.cell? ⟨w.heap.size, 5, none⟩ = some (.int .u64 w0) ∧ w'.cell? ⟨w.heap.size, 6, none⟩ = some (.int .u64 v0) ∧ w'.cell? ⟨w.heap.size, 7, none⟩ = some (.int .i64 0) ∧ w'.cell? ⟨w.heap.size + 1, 0, none⟩ = some (.slice (some ⟨gw, 0, none⟩) L cw) ∧ w'.cell? ⟨w.heap.size + 1, 1, none⟩ = some (.slice (some ⟨gb, 0, none⟩) L L) ∧ w'.cell? ⟨w.heap.size + 1, 2, none⟩ = some (.int .i64 c0) ∧ w'.cell? ⟨w.heap.size + 1, 3, none⟩ = some (.int .i64 c1) ∧ w'.cell? ⟨w.heap.size + 1, 4, none⟩ = some (.int .i64 c2) ∧ w'.cell? ⟨w.heap.size + 1, 5, none⟩ = some (.int .i64 c3) ∧ w'.cell? ⟨w.heap.size + 1, 6, none⟩ = some (.int .i64 c4) ∧ w'.cell? ⟨w.heap.size + 1, 7, none⟩ = some (.int .i64 c5) ∧ w'.cell? ⟨w.heap.size + 1, 8, none⟩ = some (.int .i64 (-1)) ∧ w'.cell? ⟨w.heap.size + 1, 9, none⟩ = some (.bool false))) (by kernel_rfl) (rst_cells HS.out.drew) (fun hH0 => ?_)
    refine take_first 0 (some 16) ?_ rfl rfl (by kernel_rfl) (by kernel_rfl) (by kernel_rfl) (fun _ _ _ h => h) rfl ?hy hH0 ?_
    case hy => (intro w0 hS0; (try dsimp only at hS0); (try go_simp); try with_reducible rfl)
    try simp only [Act.put, List.setIfInBounds_toArray, List.set_cons_zero, List.set_cons_succ]
    refine take_first 1 (some 17) ?_ rfl rfl (by kernel_rfl) (by kernel_rfl) (by kernel_rfl) (fun _ _ _ h => h) rfl ?hy hH0 ?_
    case hy => (intro w0 hS0; (try dsimp only at hS0); (try go_simp); try with_reducible rfl)
    try simp only [Act.put, List.setIfInBounds_toArray, List.set_cons_zero, List.set_cons_succ]
    refine wpAnyH_ready (rs := [2, 8]) (by kernel_rfl) (by simp) (AllReadyH.cons rfl (fun K hK => ?c2x0) (AllReadyH.cons rfl (fun K hK => ?c8x0) AllReadyH.nil))
    case c2x0 =>
      have h0 := HS.out.drew
      generalize W1.drew = wq at h0 hK ⊢
      have HSQ := Lib.hid h0
      clear h0
      go_simp
      refine (HU.out _).mono ?_; rintro e wu ⟨rfl, hb⟩
      have HSQ := Lib.hid (HSQ.out.below hb)
      clear hb
      refine hK.out _ _ (rst_cells HSQ.out) (fun hH1 => ?_)
      clear hK hH0
      try simp only [Act.put, List.setIfInBounds_toArray, List.set_cons_zero, List.set_cons_succ]
      refine wpAnyH_ready (rs := [3, 8]) (by kernel_rfl) (by simp) (AllReadyH.cons rfl (fun K hK => ?c3x1) (AllReadyH.cons rfl (fun K hK => ?c8x1) AllReadyH.nil))
      case c3x1 =>
        go_simp
        refine (HMS.out _ (HM.out.below HSQ.out.b)).mono ?_; rintro e wv hto
        obtain ⟨gg, cc, d0, d1, d2, d3, d4, d5, he, hr, hgg, hb⟩ := hto
        (try simp only [List.length_set] at he hr)
        rw [HL.out] at he
        subst he
        have hg1 : w.heap.size ≤ gg ∧ gg ≠ w.heap.size ∧ gg ≠ w.heap.size + 1 + 1 ∧ gg ≠ w.heap.size + 1 + 1 + 1 := by have := HSQ.out.o.lt; have := HSQ.out.z.lt; have := HSQ.out.y.lt; have := HSQ.out.b.size; omega
        have HRR := Lib.hid (And.intro hr hg1)
        have HSQ := Lib.hid (HSQ.out.below hb)
        clear hr hgg hb hg1
        refine hK.out _ _ (rst_cells HSQ.out) (fun hH2 => ?_)
        clear hK hH1
        try simp only [Act.put, List.setIfInBounds_toArray, List.set_cons_zero, List.set_cons_succ]
        refine take_first 4 (some 15) ?_ rfl rfl (by kernel_rfl) (by kernel_rfl) (by kernel_rfl) (fun _ _ _ h => h) rfl ?hy hH2 ?_
        case hy => (intro w0 hS0; (try dsimp only at hS0); (try go_simp); try with_reducible rfl)
        try simp only [Act.put, List.setIfInBounds_toArray, List.set_cons_zero, List.set_cons_succ]
        refine take_first 5 (some 20) ?_ rfl rfl (by kernel_rfl) (by kernel_rfl) (by kernel_rfl) (fun _ _ _ h => h) rfl ?hy hH2 ?_
        case hy => (intro w0 hS0; (try dsimp only at hS0); (try go_simp); try with_reducible rfl)
        try simp only [Act.put, List.setIfInBounds_toArray, List.set_cons_zero, List.set_cons_succ]
        refine take_first 6 (some 21) ?_ rfl rfl (by kernel_rfl) (by kernel_rfl) (by kernel_rfl) (fun _ _ _ h => h) rfl ?hy hH2 ?_
        case hy => (intro w0 hS0; (try dsimp only at hS0); (try go_simp); try with_reducible rfl)
        try simp only [Act.put, List.setIfInBounds_toArray, List.set_cons_zero, List.set_cons_succ]
        refine take_first 7 (some 22) ?_ rfl rfl (by kernel_rfl) (by kernel_rfl) (by kernel_rfl) (fun _ _ _ h => h) rfl ?hy hH2 ?_
        case hy => (intro w0 hS0; (try dsimp only at hS0); (try go_simp); try with_reducible rfl)
        try simp only [Act.put, List.setIfInBounds_toArray, List.set_cons_zero, List.set_cons_succ]
        refine wpAnyH_ready (rs := [8]) (by kernel_rfl) (by simp) (AllReadyH.cons rfl (fun K hK => ?_) AllReadyH.nil)
        go_simp
        have bt := blk_new wv 34 #[.slice none 0 0, .slice none 0 0, .int .i64 0, .int .i64 0, .int .i64 0, .int .i64 0, .int .i64 0, .int .i64 0, .int .i64 0, .bool false] _ rfl
        have hs := HSQ.out.below (bnew (Below.refl _ _) (Obj.cells #[.slice none 0 0, .slice none 0 0, .int .i64 0, .int .i64 0, .int .i64 0, .int .i64 0, .int .i64 0, .int .i64 0, .int .i64 0, .bool false] 34))
        have hlt : w.heap.size + 1 + 1 + 1 < wv.heap.size := HSQ.out.y.lt
        have hr := HRR.out.1.below (bnew (Below.refl _ _) (Obj.cells #[.slice none 0 0, .slice none 0 0, .int .i64 0, .int .i64 0, .int .i64 0, .int .i64 0, .int .i64 0, .int .i64 0, .int .i64 0, .bool false] 34))
        have hg2 : gg ≠ wv.heap.size := by obtain ⟨_, hgb⟩ := HRR.out.1.words; have := hgb.lt; omega
        generalize wv.alloc (Obj.cells #[.slice none 0 0, .slice none 0 0, .int .i64 0, .int .i64 0, .int .i64 0, .int .i64 0, .int .i64 0, .int .i64 0, .int .i64 0, .bool false] 34) = wa at bt hs hr hK ⊢
        generalize wv.heap.size = tt at bt hlt hg2 hK ⊢
        have HSQ := Lib.hid hs
        have HBT := Lib.hid (And.intro bt hlt)
        have HRR := Lib.hid (And.intro hr (And.intro HRR.out.2 hg2))
        clear hr hg2
        clear bt hs hlt
        refine hK.out _ _ (rst_cells HSQ.out) (fun hH3 => ?_)
        clear hK hH2
        try simp only [Act.put, List.setIfInBounds_toArray, List.set_cons_zero, List.set_cons_succ]
        refine wpAnyH_ready (rs := [9]) (by kernel_rfl) (by simp) (AllReadyH.cons rfl (fun K hK => ?_) AllReadyH.nil)
        obtain ⟨y0, y1, y2, y3, y4, y5, y6, y7, y8, y9, z0, z1, z2, z3, z4, z5, z6, z7, z8, z9⟩ := cf10 HBT.out.1
        go_simp
        clear y0 z0 y1 z1 y2 z2 y3 z3 y4 z4 y5 z5 y6 z6 y7 z7 y8 z8 y9 z9
        obtain ⟨bt, hc⟩ := set10 HBT.out.1 (.slice (some ⟨gg, 0, none⟩) L cc) (.slice (some ⟨gb, 0, none⟩) L L) (.int .i64 d0) (.int .i64 d1) (.int .i64 d2) (.int .i64 d3) (.int .i64 d4) (.int .i64 d5) (.int .i64 (-1)) (.bool false)
        have hs := HSQ.out.chg HBT.out.2 hc
        have hr := HRR.out.1.chg hc (fun e => HRR.out.2.2 e) (fun e => by have := HM.out.marks.lt; have := HBT.out.2; omega)
        generalize ((((((((((wa.setCell ⟨tt, 0, none⟩ (.slice (some ⟨gg, 0, none⟩) L cc)).setCell ⟨tt, 1, none⟩ (.slice (some ⟨gb, 0, none⟩) L L)).setCell ⟨tt, 2, none⟩ (.int .i64 d0)).setCell ⟨tt, 3, none⟩ (.int .i64 d1)).setCell ⟨tt, 4, none⟩ (.int .i64 d2)).setCell ⟨tt, 5, none⟩ (.int .i64 d3)).setCell ⟨tt, 6, none⟩ (.int .i64 d4)).setCell ⟨tt, 7, none⟩ (.int .i64 d5)).setCell ⟨tt, 8, none⟩ (.int .i64 (-1))).setCell ⟨tt, 9, none⟩ (.bool false)) = wt at bt hs hr hK ⊢
        have HSQ := Lib.hid hs
        have HQT : Hid (RQt w wt tt gg gb ws [.int .i64 2, .int .i64 1, .int .i64 0, .int .i64 k, .int .i64 2, .int .u64 w0, .int .u64 v0, .int .i64 0] [.int .i64 0, .int .i64 0, .int .i64 0, .int .i64 0, .int .i64 0, .int .u64 0, .int .u64 0, .int .i64 0] [.slice (some ⟨gg, 0, none⟩) L cc, .slice (some ⟨gb, 0, none⟩) L L, .int .i64 d0, .int .i64 d1, .int .i64 d2, .int .i64 d3, .int .i64 d4, .int .i64 d5, .int .i64 (-1), .bool false] [.slice none 0 0, .slice none 0 0, .int .i64 0, .int .i64 0, .int .i64 0, .int .i64 0, .int .i64 0, .int .i64 0, .int .i64 0, .bool false]) := Lib.hid ⟨hs.o, hs.z, hs.y, bt, hs.b, hr, HBT.out.2, HM.out.marks.lt, HRR.out.2.1.1, HRR.out.2.1.2.1, HRR.out.2.1.2.2.1, HRR.out.2.1.2.2.2, HRR.out.2.2⟩
        clear bt hc hs hr
        refine hK.out _ _ (rst_cells HSQ.out) (fun hH4 => ?_)
        clear hK hH3
        try simp only [Act.put, List.setIfInBounds_toArray, List.set_cons_zero, List.set_cons_succ]
        refine take_first 10 (some 7) ?_ rfl rfl (by kernel_rfl) (by kernel_rfl) (by kernel_rfl) (fun _ _ _ h => h) rfl ?hy hH4 ?_
        case hy => (intro w0 hS0; (try dsimp only at hS0); (try go_simp); try with_reducible rfl)
        try simp only [Act.put, List.setIfInBounds_toArray, List.set_cons_zero, List.set_cons_succ]
        refine take_first 11 (some 8) ?_ rfl rfl (by kernel_rfl) (by kernel_rfl) (by kernel_rfl) (fun _ _ _ h => h) rfl ?hy hH4 ?_
        case hy => (intro w0 hS0; (try dsimp only at hS0); (try go_simp); try with_reducible rfl)
        try simp only [Act.put, List.setIfInBounds_toArray, List.set_cons_zero, List.set_cons_succ]
        refine wpAnyH_done (by kernel_rfl) ?_ _
        clear hH4 HSQ HBT HRR
        go_wp2
        go_meet
        case rel => exact ⟨tt, gg, cc, d0, d1, d2, d3, d4, d5, rfl, rfl, rfl, HQT⟩
      case c8x1 =>
        go_simp
        have bt := blk_new wu 34 #[.slice none 0 0, .slice none 0 0, .int .i64 0, .int .i64 0, .int .i64 0, .int .i64 0, .int .i64 0, .int .i64 0, .int .i64 0, .bool false] _ rfl
        have hs := HSQ.out.below (bnew (Below.refl _ _) (Obj.cells #[.slice none 0 0, .slice none 0 0, .int .i64 0, .int .i64 0, .int .i64 0, .int .i64 0, .int .i64 0, .int .i64 0, .int .i64 0, .bool false] 34))
        have hlt : w.heap.size + 1 + 1 + 1 < wu.heap.size := HSQ.out.y.lt
        generalize wu.alloc (Obj.cells #[.slice none 0 0, .slice none 0 0, .int .i64 0, .int .i64 0, .int .i64 0, .int .i64 0, .int .i64 0, .int .i64 0, .int .i64 0, .bool false] 34) = wa at bt hs  hK ⊢
        generalize wu.heap.size = tt at bt hlt  hK ⊢
        have HSQ := Lib.hid hs
        have HBT := Lib.hid (And.intro bt hlt)
        clear bt hs hlt
        refine hK.out _ _ (rst_cells HSQ.out) (fun hH2 => ?_)
        clear hK hH1
        try simp only [Act.put, List.setIfInBounds_toArray, List.set_cons_zero, List.set_cons_succ]
        refine wpAnyH_ready (rs := [3]) (by kernel_rfl) (by simp) (AllReadyH.cons rfl (fun K hK => ?_) AllReadyH.nil)
        go_simp
        refine (HMS.out _ (HM.out.below HSQ.out.b)).mono ?_; rintro e wv hto
        obtain ⟨gg, cc, d0, d1, d2, d3, d4, d5, he, hr, hgg, hb⟩ := hto
        (try simp only [List.length_set] at he hr)
        rw [HL.out] at he
        subst he
        have hg1 : w.heap.size ≤ gg ∧ gg ≠ w.heap.size ∧ gg ≠ w.heap.size + 1 + 1 ∧ gg ≠ w.heap.size + 1 + 1 + 1 := by have := HSQ.out.o.lt; have := HSQ.out.z.lt; have := HSQ.out.y.lt; have := HSQ.out.b.size; omega
        have hg2 : gg ≠ tt := by have := HBT.out.1.lt; omega
        have HBT := Lib.hid (And.intro (HBT.out.1.chg (chg_of_below (fun _ => False) hb) (fun h => h)) HBT.out.2)
        have HRR := Lib.hid (And.intro hr (And.intro hg1 hg2))
        clear hg2
        have HSQ := Lib.hid (HSQ.out.below hb)
        clear hr hgg hb hg1
        refine hK.out _ _ (rst_cells HSQ.out) (fun hH3 => ?_)
        clear hK hH2
        try simp only [Act.put, List.setIfInBounds_toArray, List.set_cons_zero, List.set_cons_succ]
        refine take_first 4 (some 15) ?_ rfl rfl (by kernel_rfl) (by kernel_rfl) (by kernel_rfl) (fun _ _ _ h => h) rfl ?hy hH3 ?_
        case hy => (intro w0 hS0; (try dsimp only at hS0); (try go_simp); try with_reducible rfl)
        try simp only [Act.put, List.setIfInBounds_toArray, List.set_cons_zero, List.set_cons_succ]
        refine take_first 5 (some 20) ?_ rfl rfl (by kernel_rfl) (by kernel_rfl) (by kernel_rfl) (fun _ _ _ h => h) rfl ?hy hH3 ?_
        case hy => (intro w0 hS0; (try dsimp only at hS0); (try go_simp); try with_reducible rfl)
        try simp only [Act.put, List.setIfInBounds_toArray, List.set_cons_zero, List.set_cons_succ]
        refine take_first 6 (some 21) ?_ rfl rfl (by kernel_rfl) (by kernel_rfl) (by kernel_rfl) (fun _ _ _ h => h) rfl ?hy hH3 ?_
        case hy => (intro w0 hS0; (try dsimp only at hS0); (try go_simp); try with_reducible rfl)
        try simp only [Act.put, List.setIfInBounds_toArray, List.set_cons_zero, List.set_cons_succ]
        refine take_first 7 (some 22) ?_ rfl rfl (by kernel_rfl) (by kernel_rfl) (by kernel_rfl) (fun _ _ _ h => h) rfl ?hy hH3 ?_
        case hy => (intro w0 hS0; (try dsimp only at hS0); (try go_simp); try with_reducible rfl)
        try simp only [Act.put, List.setIfInBounds_toArray, List.set_cons_zero, List.set_cons_succ]
        refine wpAnyH_ready (rs := [9]) (by kernel_rfl) (by simp) (AllReadyH.cons rfl (fun K hK => ?_) AllReadyH.nil)
        obtain ⟨y0, y1, y2, y3, y4, y5, y6, y7, y8, y9, z0, z1, z2, z3, z4, z5, z6, z7, z8, z9⟩ := cf10 HBT.out.1
        go_simp
        clear y0 z0 y1 z1 y2 z2 y3 z3 y4 z4 y5 z5 y6 z6 y7 z7 y8 z8 y9 z9
        obtain ⟨bt, hc⟩ := set10 HBT.out.1 (.slice (some ⟨gg, 0, none⟩) L cc) (.slice (some ⟨gb, 0, none⟩) L L) (.int .i64 d0) (.int .i64 d1) (.int .i64 d2) (.int .i64 d3) (.int .i64 d4) (.int .i64 d5) (.int .i64 (-1)) (.bool false)
        have hs := HSQ.out.chg HBT.out.2 hc
        have hr := HRR.out.1.chg hc (fun e => HRR.out.2.2 e) (fun e => by have := HM.out.marks.lt; have := HBT.out.2; omega)
        generalize ((((((((((wv.setCell ⟨tt, 0, none⟩ (.slice (some ⟨gg, 0, none⟩) L cc)).setCell ⟨tt, 1, none⟩ (.slice (some ⟨gb, 0, none⟩) L L)).setCell ⟨tt, 2, none⟩ (.int .i64 d0)).setCell ⟨tt, 3, none⟩ (.int .i64 d1)).setCell ⟨tt, 4, none⟩ (.int .i64 d2)).setCell ⟨tt, 5, none⟩ (.int .i64 d3)).setCell ⟨tt, 6, none⟩ (.int .i64 d4)).setCell ⟨tt, 7, none⟩ (.int .i64 d5)).setCell ⟨tt, 8, none⟩ (.int .i64 (-1))).setCell ⟨tt, 9, none⟩ (.bool false)) = wt at bt hs hr hK ⊢
        have HSQ := Lib.hid hs
        have HQT : Hid (RQt w wt tt gg gb ws [.int .i64 2, .int .i64 1, .int .i64 0, .int .i64 k, .int .i64 2, .int .u64 w0, .int .u64 v0, .int .i64 0] [.int .i64 0, .int .i64 0, .int .i64 0, .int .i64 0, .int .i64 0, .int .u64 0, .int .u64 0, .int .i64 0] [.slice (some ⟨gg, 0, none⟩) L cc, .slice (some ⟨gb, 0, none⟩) L L, .int .i64 d0, .int .i64 d1, .int .i64 d2, .int .i64 d3, .int .i64 d4, .int .i64 d5, .int .i64 (-1), .bool false] [.slice none 0 0, .slice none 0 0, .int .i64 0, .int .i64 0, .int .i64 0, .int .i64 0, .int .i64 0, .int .i64 0, .int .i64 0, .bool false]) := Lib.hid ⟨hs.o, hs.z, hs.y, bt, hs.b, hr, HBT.out.2, HM.out.marks.lt, HRR.out.2.1.1, HRR.out.2.1.2.1, HRR.out.2.1.2.2.1, HRR.out.2.1.2.2.2, HRR.out.2.2⟩
        clear bt hc hs hr
        refine hK.out _ _ (rst_cells HSQ.out) (fun hH4 => ?_)
        clear hK hH3
        try simp only [Act.put, List.setIfInBounds_toArray, List.set_cons_zero, List.set_cons_succ]
        refine take_first 10 (some 7) ?_ rfl rfl (by kernel_rfl) (by kernel_rfl) (by kernel_rfl) (fun _ _ _ h => h) rfl ?hy hH4 ?_
        case hy => (intro w0 hS0; (try dsimp only at hS0); (try go_simp); try with_reducible rfl)
        try simp only [Act.put, List.setIfInBounds_toArray, List.set_cons_zero, List.set_cons_succ]
        refine take_first 11 (some 8) ?_ rfl rfl (by kernel_rfl) (by kernel_rfl) (by kernel_rfl) (fun _ _ _ h => h) rfl ?hy hH4 ?_
        case hy => (intro w0 hS0; (try dsimp only at hS0); (try go_simp); try with_reducible rfl)
        try simp only [Act.put, List.setIfInBounds_toArray, List.set_cons_zero, List.set_cons_succ]
        refine wpAnyH_done (by kernel_rfl) ?_ _
        clear hH4 HSQ HBT HRR
        go_wp2
        go_meet
        case rel => exact ⟨tt, gg, cc, d0, d1, d2, d3, d4, d5, rfl, rfl, rfl, HQT⟩
    case c8x0 =>
      have h0 := HS.out.drew
      generalize W1.drew = wq at h0 hK ⊢
      have HSQ := Lib.hid h0
      clear h0
      go_simp
      have bt := blk_new wq 34 #[.slice none 0 0, .slice none 0 0, .int .i64 0, .int .i64 0, .int .i64 0, .int .i64 0, .int .i64 0, .int .i64 0, .int .i64 0, .bool false] _ rfl
      have hs := HSQ.out.below (bnew (Below.refl _ _) (Obj.cells #[.slice none 0 0, .slice none 0 0, .int .i64 0, .int .i64 0, .int .i64 0, .int .i64 0, .int .i64 0, .int .i64 0, .int .i64 0, .bool false] 34))
      have hlt : w.heap.size + 1 + 1 + 1 < wq.heap.size := HSQ.out.y.lt
      generalize wq.alloc (Obj.cells #[.slice none 0 0, .slice none 0 0, .int .i64 0, .int .i64 0, .int .i64 0, .int .i64 0, .int .i64 0, .int .i64 0, .int .i64 0, .bool false] 34) = wa at bt hs  hK ⊢
      generalize wq.heap.size = tt at bt hlt  hK ⊢
      have HSQ := Lib.hid hs
      have HBT := Lib.hid (And.intro bt hlt)
      clear bt hs hlt
      refine hK.out _ _ (rst_cells HSQ.out) (fun hH1 => ?_)
      clear hK hH0
      try simp only [Act.put, List.setIfInBounds_toArray, List.set_cons_zero, List.set_cons_succ]
      refine wpAnyH_ready (rs := [2]) (by kernel_rfl) (by simp) (AllReadyH.cons rfl (fun K hK => ?_) AllReadyH.nil)
      go_simp
      refine (HU.out _).mono ?_; rintro e wu ⟨rfl, hb⟩
      have HSQ := Lib.hid (HSQ.out.below hb)
      have HBT := Lib.hid (And.intro (HBT.out.1.chg (chg_of_below (fun _ => False) hb) (fun h => h)) HBT.out.2)
      clear hb
      refine hK.out _ _ (rst_cells HSQ.out) (fun hH2 => ?_)
      clear hK hH1
      try simp only [Act.put, List.setIfInBounds_toArray, List.set_cons_zero, List.set_cons_succ]
      refine wpAnyH_ready (rs := [3]) (by kernel_rfl) (by simp) (AllReadyH.cons rfl (fun K hK => ?_) AllReadyH.nil)
      go_simp
      refine (HMS.out _ (HM.out.below HSQ.out.b)).mono ?_; rintro e wv hto
      obtain ⟨gg, cc, d0, d1, d2, d3, d4, d5, he, hr, hgg, hb⟩ := hto
      (try simp only [List.length_set] at he hr)
      rw [HL.out] at he
      subst he
      have hg1 : w.heap.size ≤ gg ∧ gg ≠ w.heap.size ∧ gg ≠ w.heap.size + 1 + 1 ∧ gg ≠ w.heap.size + 1 + 1 + 1 := by have := HSQ.out.o.lt; have := HSQ.out.z.lt; have := HSQ.out.y.lt; have := HSQ.out.b.size; omega
      have hg2 : gg ≠ tt := by have := HBT.out.1.lt; omega
      have HBT := Lib.hid (And.intro (HBT.out.1.chg (chg_of_below (fun _ => False) hb) (fun h => h)) HBT.out.2)
      have HRR := Lib.hid (And.intro hr (And.intro hg1 hg2))
      clear hg2
      have HSQ := Lib.hid (HSQ.out.below hb)
      clear hr hgg hb hg1
      refine hK.out _ _ (rst_cells HSQ.out) (fun hH3 => ?_)
      clear hK hH2
      try simp only [Act.put, List.setIfInBounds_toArray, List.set_cons_zero, List.set_cons_succ]
      refine take_first 4 (some 15) ?_ rfl rfl (by kernel_rfl) (by kernel_rfl) (by kernel_rfl) (fun _ _ _ h => h) rfl ?hy hH3 ?_
      case hy => (intro w0 hS0; (try dsimp only at hS0); (try go_simp); try with_reducible rfl)
      try simp only [Act.put, List.setIfInBounds_toArray, List.set_cons_zero, List.set_cons_succ]
      refine take_first 5 (some 20) ?_ rfl rfl (by kernel_rfl) (by kernel_rfl) (by kernel_rfl) (fun _ _ _ h => h) rfl ?hy hH3 ?_
      case hy => (intro w0 hS0; (try dsimp only at hS0); (try go_simp); try with_reducible rfl)
      try simp only [Act.put, List.setIfInBounds_toArray, List.set_cons_zero, List.set_cons_succ]
      refine take_first 6 (some 21) ?_ rfl rfl (by kernel_rfl) (by kernel_rfl) (by kernel_rfl) (fun _ _ _ h => h) rfl ?hy hH3 ?_
      case hy => (intro w0 hS0; (try dsimp only at hS0); (try go_simp); try with_reducible rfl)
      try simp only [Act.put, List.setIfInBounds_toArray, List.set_cons_zero, List.set_cons_succ]
      refine take_first 7 (some 22) ?_ rfl rfl (by kernel_rfl) (by kernel_rfl) (by kernel_rfl) (fun _ _ _ h => h) rfl ?hy hH3 ?_
      case hy => (intro w0 hS0; (try dsimp only at hS0); (try go_simp); try with_reducible rfl)
      try simp only [Act.put, List.setIfInBounds_toArray, List.set_cons_zero, List.set_cons_succ]
      refine wpAnyH_ready (rs := [9]) (by kernel_rfl) (by simp) (AllReadyH.cons rfl (fun K hK => ?_) AllReadyH.nil)
      obtain ⟨y0, y1, y2, y3, y4, y5, y6, y7, y8, y9, z0, z1, z2, z3, z4, z5, z6, z7, z8, z9⟩ := cf10 HBT.out.1
      go_simp
      clear y0 z0 y1 z1 y2 z2 y3 z3 y4 z4 y5 z5 y6 z6 y7 z7 y8 z8 y9 z9
      obtain ⟨bt, hc⟩ := set10 HBT.out.1 (.slice (some ⟨gg, 0, none⟩) L cc) (.slice (some ⟨gb, 0, none⟩) L L) (.int .i64 d0) (.int .i64 d1) (.int .i64 d2) (.int .i64 d3) (.int .i64 d4) (.int .i64 d5) (.int .i64 (-1)) (.bool false)
      have hs := HSQ.out.chg HBT.out.2 hc
      have hr := HRR.out.1.chg hc (fun e => HRR.out.2.2 e) (fun e => by have := HM.out.marks.lt; have := HBT.out.2; omega)
      generalize ((((((((((wv.setCell ⟨tt, 0, none⟩ (.slice (some ⟨gg, 0, none⟩) L cc)).setCell ⟨tt, 1, none⟩ (.slice (some ⟨gb, 0, none⟩) L L)).setCell ⟨tt, 2, none⟩ (.int .i64 d0)).setCell ⟨tt, 3, none⟩ (.int .i64 d1)).setCell ⟨tt, 4, none⟩ (.int .i64 d2)).setCell ⟨tt, 5, none⟩ (.int .i64 d3)).setCell ⟨tt, 6, none⟩ (.int .i64 d4)).setCell ⟨tt, 7, none⟩ (.int .i64 d5)).setCell ⟨tt, 8, none⟩ (.int .i64 (-1))).setCell ⟨tt, 9, none⟩ (.bool false)) = wt at bt hs hr hK ⊢
      have HSQ := Lib.hid hs
      have HQT : Hid (RQt w wt tt gg gb ws [.int .i64 2, .int .i64 1, .int .i64 0, .int .i64 k, .int .i64 2, .int .u64 w0, .int .u64 v0, .int .i64 0] [.int .i64 0, .int .i64 0, .int .i64 0, .int .i64 0, .int .i64 0, .int .u64 0, .int .u64 0, .int .i64 0] [.slice (some ⟨gg, 0, none⟩) L cc, .slice (some ⟨gb, 0, none⟩) L L, .int .i64 d0, .int .i64 d1, .int .i64 d2, .int .i64 d3, .int .i64 d4, .int .i64 d5, .int .i64 (-1), .bool false] [.slice none 0 0, .slice none 0 0, .int .i64 0, .int .i64 0, .int .i64 0, .int .i64 0, .int .i64 0, .int .i64 0, .int .i64 0, .bool false]) := Lib.hid ⟨hs.o, hs.z, hs.y, bt, hs.b, hr, HBT.out.2, HM.out.marks.lt, HRR.out.2.1.1, HRR.out.2.1.2.1, HRR.out.2.1.2.2.1, HRR.out.2.1.2.2.2, HRR.out.2.2⟩
      clear bt hc hs hr
      refine hK.out _ _ (rst_cells HSQ.out) (fun hH4 => ?_)
      clear hK hH3
      try simp only [Act.put, List.setIfInBounds_toArray, List.set_cons_zero, List.set_cons_succ]
      refine take_first 10 (some 7) ?_ rfl rfl (by kernel_rfl) (by kernel_rfl) (by kernel_rfl) (fun _ _ _ h => h) rfl ?hy hH4 ?_
      case hy => (intro w0 hS0; (try dsimp only at hS0); (try go_simp); try with_reducible rfl)
      try simp only [Act.put, List.setIfInBounds_toArray, List.set_cons_zero, List.set_cons_succ]
      refine take_first 11 (some 8) ?_ rfl rfl (by kernel_rfl) (by kernel_rfl) (by kernel_rfl) (fun _ _ _ h => h) rfl ?hy hH4 ?_
      case hy => (intro w0 hS0; (try dsimp only at hS0); (try go_simp); try with_reducible rfl)
      try simp only [Act.put, List.setIfInBounds_toArray, List.set_cons_zero, List.set_cons_succ]
      refine wpAnyH_done (by kernel_rfl) ?_ _
      clear hH4 HSQ HBT HRR
      go_wp2
      go_meet
      case rel => exact ⟨tt, gg, cc, d0, d1, d2, d3, d4, d5, rfl, rfl, rfl, HQT⟩
  case rest =>
    obtain ⟨tt, gg, cc, d0, d1, d2, d3, d4, d5, rfl, rfl, rfl, HQ⟩ := hcut
    clear HS HU HMS
    obtain ⟨wx, hwx⟩ : ∃ wx : World, wx = wc := ⟨_, rfl⟩
    rw [← hwx] at HQ ⊢
    clear hwx
    obtain ⟨f0, f1, f2, f3, f4, f5, f6, f7, zf0, zf1, zf2, zf3, zf4, zf5, zf6, zf7⟩ := cf8 HQ.out.o
    go_wp2_with fail
    refine (HNX.out _).mono ?_; rintro e w' ⟨rfl, rfl⟩
    go_upto_region 31 with fail
    clear f0 zf0 f1 zf1 f2 zf2 f3 zf3 f4 zf4 f5 zf5 f6 zf6 f7 zf7
    have b0 : Blk ((wx.setCell ⟨w.heap.size, 6, none⟩ (.int .u64 v0)).setCell ⟨w.heap.size, 3, none⟩ (.int .i64 q)) (w.heap.size) 44 [.int .i64 2, .int .i64 1, .int .i64 0, .int .i64 q, .int .i64 2, .int .u64 w0, .int .u64 v0, .int .i64 0] := ((HQ.out.o.set 6 (.int .u64 v0)).set 3 (.int .i64 q))
    have hch : Chg (fun j => j = w.heap.size) wx ((wx.setCell ⟨w.heap.size, 6, none⟩ (.int .u64 v0)).setCell ⟨w.heap.size, 3, none⟩ (.int .i64 q)) := (((Chg.refl (fun j => j = w.heap.size) wx).setCell ⟨w.heap.size, 6, none⟩ (.int .u64 v0) (fun _ => rfl)).setCell ⟨w.heap.size, 3, none⟩ (.int .i64 q) (fun _ => rfl))
    have hs := HQ.out.setO b0 hch
    clear b0 hch
    generalize ((wx.setCell ⟨w.heap.size, 6, none⟩ (.int .u64 v0)).setCell ⟨w.heap.size, 3, none⟩ (.int .i64 q)) = wx at hs ⊢
    have HQ := Lib.hid hs
    clear hs
    refine wp_region_held_drew (S := (fun w' => w'.cell? ⟨w.heap.size, 0, none⟩ = some (.int .i64 2) ∧ w'.cell? ⟨w.heap.size, 1, none⟩ = some (.int .i64 1) ∧ w'.cell? ⟨w.heap.size, 2, none⟩ = some (.int .i64 0) ∧ w'.cell? ⟨w.heap.size, 3, none⟩ = some (.int .i64 q) ∧ w'.cell? ⟨w.heap.size, 4, none⟩ = some (.int .i64 2) ∧ w'.cell? ⟨w.heap.size, 5, none⟩ = some (.int .u64 w0) ∧ w'.cell? ⟨w.heap.size, 6, none⟩ = some (.int .u64 v0) ∧ w'.cell? ⟨w.heap.size, 7, none⟩ = some (.int .i64 0) ∧ w'.cell? ⟨tt, 0, none⟩ = some (.slice (some ⟨gg, 0, none⟩) L cc) ∧ w'.cell? ⟨tt, 1, none⟩ = some (.slice (some ⟨gb, 0, none⟩) L L) ∧ w'.cell? ⟨tt, 2, none⟩ = some (.int .i64 d0) ∧ w'.cell? ⟨tt, 3, none⟩ = some (.int .i64 d1) ∧ w'.cell? ⟨tt, 4, none⟩ = some (.int .i64 d2) ∧ w'.cell? ⟨tt, 5, none⟩ = some (.int .i64 d3) ∧ w'.cell? ⟨tt, 6, none⟩ = some (.int .i64 d4) ∧ w'.cell? ⟨tt, 7, none⟩ = some (.int .i64 d5) ∧ w'.cell? ⟨tt, 8, none⟩ = some (.int .i64 (-1)) ∧ w'.cell? ⟨tt, 9, none⟩ = some (.bool false))) (by kernel_rfl) (rqt_cells HQ.out.drew) (fun hH0 => ?_)
    refine take_first 0 (some 122) ?_ rfl rfl (by kernel_rfl) (by kernel_rfl) (by kernel_rfl) (fun _ _ _ h => h) rfl ?hy hH0 ?_
    case hy => (intro w0 hS0; (try dsimp only at hS0); (try go_simp); try with_reducible rfl)
    try simp only [Act.put, List.setIfInBounds_toArray, List.set_cons_zero, List.set_cons_succ]
    refine take_first 1 (some 123) ?_ rfl rfl (by kernel_rfl) (by kernel_rfl) (by kernel_rfl) (fun _ _ _ h => h) rfl ?hy hH0 ?_
    case hy => (intro w0 hS0; (try dsimp only at hS0); (try go_simp); try with_reducible rfl)
    try simp only [Act.put, List.setIfInBounds_toArray, List.set_cons_zero, List.set_cons_succ]
    refine wpAnyH_ready (rs := [2]) (by kernel_rfl) (by simp) (AllReadyH.cons rfl (fun K hK => ?_) AllReadyH.nil)
    have h0 := HQ.out.drew
    generalize wx.drew = wq at h0 hK ⊢
    have HQ := Lib.hid h0
    clear h0
    obtain ⟨y0, y1, y2, y3, y4, y5, y6, y7, z0, z1, z2, z3, z4, z5, z6, z7⟩ := cf8 HQ.out.z
    go_simp
    clear y0 z0 y1 z1 y2 z2 y3 z3 y4 z4 y5 z5 y6 z6 y7 z7
    obtain ⟨bt, hc⟩ := set8 HQ.out.z (.int .i64 2) (.int .i64 1) (.int .i64 0) (.int .i64 q) (.int .i64 2) (.int .u64 w0) (.int .u64 v0) (.int .i64 0)
    have hs := HQ.out.setZ bt hc
    generalize ((((((((wq.setCell ⟨w.heap.size + 1 + 1, 0, none⟩ (.int .i64 2)).setCell ⟨w.heap.size + 1 + 1, 1, none⟩ (.int .i64 1)).setCell ⟨w.heap.size + 1 + 1, 2, none⟩ (.int .i64 0)).setCell ⟨w.heap.size + 1 + 1, 3, none⟩ (.int .i64 q)).setCell ⟨w.heap.size + 1 + 1, 4, none⟩ (.int .i64 2)).setCell ⟨w.heap.size + 1 + 1, 5, none⟩ (.int .u64 w0)).setCell ⟨w.heap.size + 1 + 1, 6, none⟩ (.int .u64 v0)).setCell ⟨w.heap.size + 1 + 1, 7, none⟩ (.int .i64 0)) = wz at hs hK ⊢
    have HQ := Lib.hid hs
    clear bt hc hs
    refine hK.out _ _ (rqt_cells HQ.out) (fun hH1 => ?_)
    clear hK hH0
    try simp only [Act.put, List.setIfInBounds_toArray, List.set_cons_zero, List.set_cons_succ]
    refine wpAnyH_ready (rs := [3]) (by kernel_rfl) (by simp) (AllReadyH.cons rfl (fun K hK => ?_) AllReadyH.nil)
    obtain ⟨y0, y1, y2, y3, y4, y5, y6, y7, y8, y9, z0, z1, z2, z3, z4, z5, z6, z7, z8, z9⟩ := cf10 HQ.out.y
    go_simp
    clear y0 z0 y1 z1 y2 z2 y3 z3 y4 z4 y5 z5 y6 z6 y7 z7 y8 z8 y9 z9
    obtain ⟨bt, hc⟩ := set10 HQ.out.y (.slice (some ⟨gg, 0, none⟩) L cc) (.slice (some ⟨gb, 0, none⟩) L L) (.int .i64 d0) (.int .i64 d1) (.int .i64 d2) (.int .i64 d3) (.int .i64 d4) (.int .i64 d5) (.int .i64 (-1)) (.bool false)
    have hs := HQ.out.setY bt hc
    generalize ((((((((((wz.setCell ⟨w.heap.size + 1 + 1 + 1, 0, none⟩ (.slice (some ⟨gg, 0, none⟩) L cc)).setCell ⟨w.heap.size + 1 + 1 + 1, 1, none⟩ (.slice (some ⟨gb, 0, none⟩) L L)).setCell ⟨w.heap.size + 1 + 1 + 1, 2, none⟩ (.int .i64 d0)).setCell ⟨w.heap.size + 1 + 1 + 1, 3, none⟩ (.int .i64 d1)).setCell ⟨w.heap.size + 1 + 1 + 1, 4, none⟩ (.int .i64 d2)).setCell ⟨w.heap.size + 1 + 1 + 1, 5, none⟩ (.int .i64 d3)).setCell ⟨w.heap.size + 1 + 1 + 1, 6, none⟩ (.int .i64 d4)).setCell ⟨w.heap.size + 1 + 1 + 1, 7, none⟩ (.int .i64 d5)).setCell ⟨w.heap.size + 1 + 1 + 1, 8, none⟩ (.int .i64 (-1))).setCell ⟨w.heap.size + 1 + 1 + 1, 9, none⟩ (.bool false)) = wy at hs hK ⊢
    have HQ := Lib.hid hs
    clear bt hc hs
    refine hK.out _ _ (rqt_cells HQ.out) (fun hH2 => ?_)
    clear hK hH1
    try simp only [Act.put, List.setIfInBounds_toArray, List.set_cons_zero, List.set_cons_succ]
    refine wpAnyH_done (by kernel_rfl) ?_ _
    clear hH2
    obtain ⟨g0, g1, g2, g3, g4, g5, g6, g7, _, _, _, _, _, _, _, _⟩ := cf8 HQ.out.z
    obtain ⟨l0, l1, l2, l3, l4, l5, l6, l7, l8, l9, _, _, _, _, _, _, _, _, _, _⟩ := cf10 HQ.out.y
    go_wp2
    refine bodyPost_ret (v := .tuple #[.agg #[.int .i64 2, .int .i64 1, .int .i64 0, .int .i64 q, .int .i64 2, .int .u64 w0, .int .u64 v0, .int .i64 0], .agg #[.slice (some ⟨gg, 0, none⟩) L cc, .slice (some ⟨gb, 0, none⟩) L L, .int .i64 d0, .int .i64 d1, .int .i64 d2, .int .i64 d3, .int .i64 d4, .int .i64 d5, .int .i64 (-1), .bool false]]) (by simp [results, Try.results11, go_sem, g0, g1, g2, g3, g4, g5, g6, g7, l0, l1, l2, l3, l4, l5, l6, l7, l8, l9]) rfl ⟨gg, cc, d0, d1, d2, d3, d4, d5, by (try rw [List.length_set]); rw [HL.out], HQ.out.r, .inr HQ.out.g0, HQ.out.b⟩
set_option maxHeartbeats 8000000 in
set_option maxRecDepth 100000 in
theorem rstep22db (gw cw gb : Nat) (c0 c1 c2 c3 c4 c5 : Int) (ws : List Nat) (k w0 v0 : Nat) (w : World) (hm : RefAt w gw gb ws) (hk : k < 8) (x : Nat) (hx : ws.getD (2 + k) 0 = x) (ha : (2 + k) < ws.length) (hw : w0 < 18446744073709551616) (hmn : ¬ x < v0) (hq : rnext w0 (k + 1) = -1) :
    Calls Try.prog 11 #[.agg #[.int .i64 2, .int .i64 1, .int .i64 0, .int .i64 k, .int .i64 2, .int .u64 w0, .int .u64 v0, .int .i64 0], .agg #[.slice (some ⟨gw, 0, none⟩) ws.length cw, .slice (some ⟨gb, 0, none⟩) ws.length ws.length, .int .i64 c0, .int .i64 c1, .int .i64 c2, .int .i64 c3, .int .i64 c4, .int .i64 c5, .int .i64 (-1), .bool false]] w fun e w' => RefTold19 w gw gb ws [.int .i64 2, .int .i64 1, .int .i64 0, .int .i64 (-1), .int .i64 6, .int .u64 w0, .int .u64 v0, .int .i64 0] e w' := by
  have HM := Lib.hid hm
  have k8 : (k : Int) < 8 := by omega
  have HK := Lib.hid hk
  have HA := Lib.hid ha
  have hx64 : x < 18446744073709551616 := by rw [← hx]; exact hm.getD_lt (2 + k)
  have HX := Lib.hid hx
  have hnx := fun W => rnext_calls w0 (k + 1) W (by omega) hw
  rw [hq] at hnx
  rw [show ((k + 1 : Nat) : Int) = (k : Int) + 1 from rfl] at hnx
  have HNX := Lib.hid hnx
  have hmi : ¬ (x : Int) < (v0 : Int) := by omega
  clear hnx hq hx64 hx ha hw hmn
  have HU := Lib.hid (fun W => ruse22 k w0 v0 0 W HK.out)
  have HMS := Lib.hid (fun W (h : RefAt W gw gb ws) => by have hh := refload_same gw cw gb c0 c1 c2 c3 c4 c5 ws (2 + k) W h HA.out; rw [HX.out] at hh; exact hh)
  obtain ⟨L, hL⟩ : ∃ L, ws.length = L := ⟨_, rfl⟩
  rw [hL] at HMS ⊢
  have HL := Lib.hid hL
  clear hm hk hL
  go_enter Try.func11, Try.ntmps11
  go_upto_region 3 with fail
  have hs := rst_new w (.int .i64 2) (.int .i64 1) (.int .i64 0) (.int .i64 k) (.int .i64 2) (.int .u64 w0) (.int .u64 v0) (.int .i64 0) (.slice (some ⟨gw, 0, none⟩) L cw) (.slice (some ⟨gb, 0, none⟩) L L) (.int .i64 c0) (.int .i64 c1) (.int .i64 c2) (.int .i64 c3) (.int .i64 c4) (.int .i64 c5) (.int .i64 (-1)) (.bool false)
  generalize (((w.alloc (Obj.cells #[.int .i64 2, .int .i64 1, .int .i64 0, .int .i64 k, .int .i64 2, .int .u64 w0, .int .u64 v0, .int .i64 0] 44)).alloc (Obj.cells #[.slice (some ⟨gw, 0, none⟩) L cw, .slice (some ⟨gb, 0, none⟩) L L, .int .i64 c0, .int .i64 c1, .int .i64 c2, .int .i64 c3, .int .i64 c4, .int .i64 c5, .int .i64 (-1), .bool false] 34)).alloc (Obj.cells #[.int .i64 0, .int .i64 0, .int .i64 0, .int .i64 0, .int .i64 0, .int .u64 0, .int .u64 0, .int .i64 0] 44)).alloc (Obj.cells #[.slice none 0 0, .slice none 0 0, .int .i64 0, .int .i64 0, .int .i64 0, .int .i64 0, .int .i64 0, .int .i64 0, .int .i64 0, .bool false] 34) = W1 at hs ⊢
  have HS := Lib.hid hs
  clear hs
  go_cut [6, 7, 8] (fun v6 v7 v8 wx => ∃ (tt gg cc : Nat) (d0 d1 d2 d3 d4 d5 : Int), v6 = .pointer (some ⟨tt, 0, none⟩) ∧ v7 = .int .u64 (x : Nat) ∧ v8 = .bool false ∧ Hid (RQt w wx tt gg gb ws [.int .i64 2, .int .i64 1, .int .i64 0, .int .i64 k, .int .i64 2, .int .u64 w0, .int .u64 v0, .int .i64 0] [.int .i64 0, .int .i64 0, .int .i64 0, .int .i64 0, .int .i64 0, .int .u64 0, .int .u64 0, .int .i64 0] [.slice (some ⟨gg, 0, none⟩) L cc, .slice (some ⟨gb, 0, none⟩) L L, .int .i64 d0, .int .i64 d1, .int .i64 d2, .int .i64 d3, .int .i64 d4, .int .i64 d5, .int .i64 (-1), .bool false] [.slice none 0 0, .slice none 0 0, .int .i64 0, .int .i64 0, .int .i64 0, .int .i64 0, .int .i64 0, .int .i64 0, .int .i64 0, .bool false]))
  case first =>
    refine wp_region_held_drew (S := (fun w' => w'.cell? ⟨w.heap.size, 0, none⟩ = some (.int .i64 2) ∧ w'.cell? ⟨w.heap.size, 1, none⟩ = some (.int .i64 1) ∧ w'.cell? ⟨w.heap.size, 2, none⟩ = some (.int .i64 0) ∧ w'.cell? ⟨w.heap.size, 3, none⟩ = some (.int .i64 k) ∧ w'.cell? ⟨w.heap.size, 4, none⟩ = some (.int .i64 2) ∧ w'.cell? ⟨w.heap.size, 5, none⟩ = some (.int .u64 w0) ∧ w'.cell? ⟨w.heap.size, 6, none⟩ = some (.int .u64 v0) ∧ w'.cell? ⟨w.heap.size, 7, none⟩ = some (.int .i64 0) ∧ w'.cell? ⟨w.heap.size + 1, 0, none⟩ = some (.slice (some ⟨gw, 0, none⟩) L cw) ∧ w'.cell? ⟨w.heap.size + 1, 1, none⟩ = some (.slice (some ⟨gb, 0, none⟩) L L) ∧ w'.cell? ⟨w.heap.size + 1, 2, none⟩ = some (.int .i64 c0) ∧ w'.cell? ⟨w.heap.size + 1, 3, none⟩ = some (.int .i64 c1) ∧ w'.cell? ⟨w.heap.size + 1, 4, none⟩ = some (.int .i64 c2) ∧ w'.cell? ⟨w.heap.size + 1, 5, none⟩ = some (.int .i64 c3) ∧ w'.cell? ⟨w.heap.size + 1, 6, none⟩ = some (.int .i64 c4) ∧ w'.cell? ⟨w.heap.size + 1, 7, none⟩ = some (.int .i64 c5) ∧ w'.cell? ⟨w.heap.size + 1, 8, none⟩ = some (.int .i64 (-1)) ∧ w'.cell? ⟨w.heap.size + 1, 9, none⟩ = some (.bool false))) (by kernel_rfl) (rst_cells HS.out.drew) (fun hH0 => ?_)
    refine take_first 0 (some 16) ?_ rfl rfl (by kernel_rfl) (by kernel_rfl) (by kernel_rfl) (fun _ _ _ h => h) rfl ?hy hH0 ?_
    case hy => (intro w0 hS0; (try dsimp only at hS0); (try go_simp); try with_reducible rfl)
    try simp only [Act.put, List.setIfInBounds_toArray, List.set_cons_zero, List.set_cons_succ]
    refine take_first 1 (some 17) ?_ rfl rfl (by kernel_rfl) (by kernel_rfl) (by kernel_rfl) (fun _ _ _ h => h) rfl ?hy hH0 ?_
    case hy => (intro w0 hS0; (try dsimp only at hS0); (try go_simp); try with_reducible rfl)
    try simp only [Act.put, List.setIfInBounds_toArray, List.set_cons_zero, List.set_cons_succ]
    refine wpAnyH_ready (rs := [2, 8]) (by kernel_rfl) (by simp) (AllReadyH.cons rfl (fun K hK => ?c2x0) (AllReadyH.cons rfl (fun K hK => ?c8x0) AllReadyH.nil))
    case c2x0 =>
      have h0 := HS.out.drew
      generalize W1.drew = wq at h0 hK ⊢
      have HSQ := Lib.hid h0
      clear h0
      go_simp
      refine (HU.out _).mono ?_; rintro e wu ⟨rfl, hb⟩
      have HSQ := Lib.hid (HSQ.out.below hb)
      clear hb
      refine hK.out _ _ (rst_cells HSQ.out) (fun hH1 => ?_)
      clear hK hH0
      try simp only [Act.put, List.setIfInBounds_toArray, List.set_cons_zero, List.set_cons_succ]
      refine wpAnyH_ready (rs := [3, 8]) (by kernel_rfl) (by simp) (AllReadyH.cons rfl (fun K hK => ?c3x1) (AllReadyH.cons rfl (fun K hK => ?c8x1) AllReadyH.nil))
      case c3x1 =>
        go_simp
        refine (HMS.out _ (HM.out.below HSQ.out.b)).mono ?_; rintro e wv hto
        obtain ⟨gg, cc, d0, d1, d2, d3, d4, d5, he, hr, hgg, hb⟩ := hto
        (try simp only [List.length_set] at he hr)
        rw [HL.out] at he
        subst he
        have hg1 : w.heap.size ≤ gg ∧ gg ≠ w.heap.size ∧ gg ≠ w.heap.size + 1 + 1 ∧ gg ≠ w.heap.size + 1 + 1 + 1 := by have := HSQ.out.o.lt; have := HSQ.out.z.lt; have := HSQ.out.y.lt; have := HSQ.out.b.size; omega
        have HRR := Lib.hid (And.intro hr hg1)
        have HSQ := Lib.hid (HSQ.out.below hb)
        clear hr hgg hb hg1
        refine hK.out _ _ (rst_cells HSQ.out) (fun hH2 => ?_)
        clear hK hH1
        try simp only [Act.put, List.setIfInBounds_toArray, List.set_cons_zero, List.set_cons_succ]
        refine take_first 4 (some 15) ?_ rfl rfl (by kernel_rfl) (by kernel_rfl) (by kernel_rfl) (fun _ _ _ h => h) rfl ?hy hH2 ?_
        case hy => (intro w0 hS0; (try dsimp only at hS0); (try go_simp); try with_reducible rfl)
        try simp only [Act.put, List.setIfInBounds_toArray, List.set_cons_zero, List.set_cons_succ]
        refine take_first 5 (some 20) ?_ rfl rfl (by kernel_rfl) (by kernel_rfl) (by kernel_rfl) (fun _ _ _ h => h) rfl ?hy hH2 ?_
        case hy => (intro w0 hS0; (try dsimp only at hS0); (try go_simp); try with_reducible rfl)
        try simp only [Act.put, List.setIfInBounds_toArray, List.set_cons_zero, List.set_cons_succ]
        refine take_first 6 (some 21) ?_ rfl rfl (by kernel_rfl) (by kernel_rfl) (by kernel_rfl) (fun _ _ _ h => h) rfl ?hy hH2 ?_
        case hy => (intro w0 hS0; (try dsimp only at hS0); (try go_simp); try with_reducible rfl)
        try simp only [Act.put, List.setIfInBounds_toArray, List.set_cons_zero, List.set_cons_succ]
        refine take_first 7 (some 22) ?_ rfl rfl (by kernel_rfl) (by kernel_rfl) (by kernel_rfl) (fun _ _ _ h => h) rfl ?hy hH2 ?_
        case hy => (intro w0 hS0; (try dsimp only at hS0); (try go_simp); try with_reducible rfl)
        try simp only [Act.put, List.setIfInBounds_toArray, List.set_cons_zero, List.set_cons_succ]
        refine wpAnyH_ready (rs := [8]) (by kernel_rfl) (by simp) (AllReadyH.cons rfl (fun K hK => ?_) AllReadyH.nil)
        go_simp
        have bt := blk_new wv 34 #[.slice none 0 0, .slice none 0 0, .int .i64 0, .int .i64 0, .int .i64 0, .int .i64 0, .int .i64 0, .int .i64 0, .int .i64 0, .bool false] _ rfl
        have hs := HSQ.out.below (bnew (Below.refl _ _) (Obj.cells #[.slice none 0 0, .slice none 0 0, .int .i64 0, .int .i64 0, .int .i64 0, .int .i64 0, .int .i64 0, .int .i64 0, .int .i64 0, .bool false] 34))
        have hlt : w.heap.size + 1 + 1 + 1 < wv.heap.size := HSQ.out.y.lt
        have hr := HRR.out.1.below (bnew (Below.refl _ _) (Obj.cells #[.slice none 0 0, .slice none 0 0, .int .i64 0, .int .i64 0, .int .i64 0, .int .i64 0, .int .i64 0, .int .i64 0, .int .i64 0, .bool false] 34))
        have hg2 : gg ≠ wv.heap.size := by obtain ⟨_, hgb⟩ := HRR.out.1.words; have := hgb.lt; omega
        generalize wv.alloc (Obj.cells #[.slice none 0 0, .slice none 0 0, .int .i64 0, .int .i64 0, .int .i64 0, .int .i64 0, .int .i64 0, .int .i64 0, .int .i64 0, .bool false] 34) = wa at bt hs hr hK ⊢
        generalize wv.heap.size = tt at bt hlt hg2 hK ⊢
        have HSQ := Lib.hid hs
        have HBT := Lib.hid (And.intro bt hlt)
        have HRR := Lib.hid (And.intro hr (And.intro HRR.out.2 hg2))
        clear hr hg2
        clear bt hs hlt
        refine hK.out _ _ (rst_cells HSQ.out) (fun hH3 => ?_)
        clear hK hH2
        try simp only [Act.put, List.setIfInBounds_toArray, List.set_cons_zero, List.set_cons_succ]
        refine wpAnyH_ready (rs := [9]) (by kernel_rfl) (by simp) (AllReadyH.cons rfl (fun K hK => ?_) AllReadyH.nil)
        obtain ⟨y0, y1, y2, y3, y4, y5, y6, y7, y8, y9, z0, z1, z2, z3, z4, z5, z6, z7, z8, z9⟩ := cf10 HBT.out.1
        go_simp
        clear y0 z0 y1 z1 y2 z2 y3 z3 y4 z4 y5 z5 y6 z6 y7 z7 y8 z8 y9 z9
        obtain ⟨bt, hc⟩ := set10 HBT.out.1 (.slice (some ⟨gg, 0, none⟩) L cc) (.slice (some ⟨gb, 0, none⟩) L L) (.int .i64 d0) (.int .i64 d1) (.int .i64 d2) (.int .i64 d3) (.int .i64 d4) (.int .i64 d5) (.int .i64 (-1)) (.bool false)
        have hs := HSQ.out.chg HBT.out.2 hc
        have hr := HRR.out.1.chg hc (fun e => HRR.out.2.2 e) (fun e => by have := HM.out.marks.lt; have := HBT.out.2; omega)
        generalize ((((((((((wa.setCell ⟨tt, 0, none⟩ (.slice (some ⟨gg, 0, none⟩) L cc)).setCell ⟨tt, 1, none⟩ (.slice (some ⟨gb, 0, none⟩) L L)).setCell ⟨tt, 2, none⟩ (.int .i64 d0)).setCell ⟨tt, 3, none⟩ (.int .i64 d1)).setCell ⟨tt, 4, none⟩ (.int .i64 d2)).setCell ⟨tt, 5, none⟩ (.int .i64 d3)).setCell ⟨tt, 6, none⟩ (.int .i64 d4)).setCell ⟨tt, 7, none⟩ (.int .i64 d5)).setCell ⟨tt, 8, none⟩ (.int .i64 (-1))).setCell ⟨tt, 9, none⟩ (.bool false)) = wt at bt hs hr hK ⊢
        have HSQ := Lib.hid hs
        have HQT : Hid (RQt w wt tt gg gb ws [.int .i64 2, .int .i64 1, .int .i64 0, .int .i64 k, .int .i64 2, .int .u64 w0, .int .u64 v0, .int .i64 0] [.int .i64 0, .int .i64 0, .int .i64 0, .int .i64 0, .int .i64 0, .int .u64 0, .int .u64 0, .int .i64 0] [.slice (some ⟨gg, 0, none⟩) L cc, .slice (some ⟨gb, 0, none⟩) L L, .int .i64 d0, .int .i64 d1, .int .i64 d2, .int .i64 d3, .int .i64 d4, .int .i64 d5, .int .i64 (-1), .bool false] [.slice none 0 0, .slice none 0 0, .int .i64 0, .int .i64 0, .int .i64 0, .int .i64 0, .int .i64 0, .int .i64 0, .int .i64 0, .bool false]) := Lib.hid ⟨hs.o, hs.z, hs.y, bt, hs.b, hr, HBT.out.2, HM.out.marks.lt, HRR.out.2.1.1, HRR.out.2.1.2.1, HRR.out.2.1.2.2.1, HRR.out.2.1.2.2.2, HRR.out.2.2⟩
        clear bt hc hs hr
        refine hK.out _ _ (rst_cells HSQ.out) (fun hH4 => ?_)
        clear hK hH3
        try simp only [Act.put, List.setIfInBounds_toArray, List.set_cons_zero, List.set_cons_succ]
        refine take_first 10 (some 7) ?_ rfl rfl (by kernel_rfl) (by kernel_rfl) (by kernel_rfl) (fun _ _ _ h => h) rfl ?hy hH4 ?_
        case hy => (intro w0 hS0; (try dsimp only at hS0); (try go_simp); try with_reducible rfl)
        try simp only [Act.put, List.setIfInBounds_toArray, List.set_cons_zero, List.set_cons_succ]
        refine take_first 11 (some 8) ?_ rfl rfl (by kernel_rfl) (by kernel_rfl) (by kernel_rfl) (fun _ _ _ h => h) rfl ?hy hH4 ?_
        case hy => (intro w0 hS0; (try dsimp only at hS0); (try go_simp); try with_reducible rfl)
        try simp only [Act.put, List.setIfInBounds_toArray, List.set_cons_zero, List.set_cons_succ]
        refine wpAnyH_done (by kernel_rfl) ?_ _
        clear hH4 HSQ HBT HRR
        go_wp2
        go_meet
        case rel => exact ⟨tt, gg, cc, d0, d1, d2, d3, d4, d5, rfl, rfl, rfl, HQT⟩
      case c8x1 =>
        go_simp
        have bt := blk_new wu 34 #[.slice none 0 0, .slice none 0 0, .int .i64 0, .int .i64 0, .int .i64 0, .int .i64 0, .int .i64 0, .int .i64 0, .int .i64 0, .bool false] _ rfl
        have hs := HSQ.out.below (bnew (Below.refl _ _) (Obj.cells #[.slice none 0 0, .slice none 0 0, .int .i64 0, .int .i64 0, .int .i64 0, .int .i64 0, .int .i64 0, .int .i64 0, .int .i64 0, .bool false] 34))
        have hlt : w.heap.size + 1 + 1 + 1 < wu.heap.size := HSQ.out.y.lt
        generalize wu.alloc (Obj.cells #[.slice none 0 0, .slice none 0 0, .int .i64 0, .int .i64 0, .int .i64 0, .int .i64 0, .int .i64 0, .int .i64 0, .int .i64 0, .bool false] 34) = wa at bt hs  hK ⊢
        generalize wu.heap.size = tt at bt hlt  hK ⊢
        have HSQ := Lib.hid hs
        have HBT := Lib.hid (And.intro bt hlt)
        clear bt hs hlt
        refine hK.out _ _ (rst_cells HSQ.out) (fun hH2 => ?_)
        clear hK hH1
        try simp only [Act.put, List.setIfInBounds_toArray, List.set_cons_zero, List.set_cons_succ]
        refine wpAnyH_ready (rs := [3]) (by kernel_rfl) (by simp) (AllReadyH.cons rfl (fun K hK => ?_) AllReadyH.nil)
        go_simp
        refine (HMS.out _ (HM.out.below HSQ.out.b)).mono ?_; rintro e wv hto
        obtain ⟨gg, cc, d0, d1, d2, d3, d4, d5, he, hr, hgg, hb⟩ := hto
        (try simp only [List.length_set] at he hr)
        rw [HL.out] at he
        subst he
        have hg1 : w.heap.size ≤ gg ∧ gg ≠ w.heap.size ∧ gg ≠ w.heap.size + 1 + 1 ∧ gg ≠ w.heap.size + 1 + 1 + 1 := by have := HSQ.out.o.lt; have := HSQ.out.z.lt; have := HSQ.out.y.lt; have := HSQ.out.b.size; omega
        have hg2 : gg ≠ tt := by have := HBT.out.1.lt; omega
        have HBT := Lib.hid (And.intro (HBT.out.1.chg (chg_of_below (fun _ => False) hb) (fun h => h)) HBT.out.2)
        have HRR := Lib.hid (And.intro hr (And.intro hg1 hg2))
        clear hg2
        have HSQ := Lib.hid (HSQ.out.below hb)
        clear hr hgg hb hg1
        refine hK.out _ _ (rst_cells HSQ.out) (fun hH3 => ?_)
        clear hK hH2
        try simp only [Act.put, List.setIfInBounds_toArray, List.set_cons_zero, List.set_cons_succ]
        refine take_first 4 (some 15) ?_ rfl rfl (by kernel_rfl) (by kernel_rfl) (by kernel_rfl) (fun _ _ _ h => h) rfl ?hy hH3 ?_
        case hy => (intro w0 hS0; (try dsimp only at hS0); (try go_simp); try with_reducible rfl)
        try simp only [Act.put, List.setIfInBounds_toArray, List.set_cons_zero, List.set_cons_succ]
        refine take_first 5 (some 20) ?_ rfl rfl (by kernel_rfl) (by kernel_rfl) (by kernel_rfl) (fun _ _ _ h => h) rfl ?hy hH3 ?_
        case hy => (intro w0 hS0; (try dsimp only at hS0); (try go_simp); try with_reducible rfl)
        try simp only [Act.put, List.setIfInBounds_toArray, List.set_cons_zero, List.set_cons_succ]
        refine take_first 6 (some 21) ?_ rfl rfl (by kernel_rfl) (by kernel_rfl) (by kernel_rfl) (fun _ _ _ h => h) rfl ?hy hH3 ?_
        case hy => (intro w0 hS0; (try dsimp only at hS0); (try go_simp); try with_reducible rfl)
        try simp only [Act.put, List.setIfInBounds_toArray, List.set_cons_zero, List.set_cons_succ]
        refine take_first 7 (some 22) ?_ rfl rfl (by kernel_rfl) (by kernel_rfl) (by kernel_rfl) (fun _ _ _ h => h) rfl ?hy hH3 ?_
        case hy => (intro w0 hS0; (try dsimp only at hS0); (try go_simp); try with_reducible rfl)
        try simp only [Act.put, List.setIfInBounds_toArray, List.set_cons_zero, List.set_cons_succ]
        refine wpAnyH_ready (rs := [9]) (by kernel_rfl) (by simp) (AllReadyH.cons rfl (fun K hK => ?_) AllReadyH.nil)
        obtain ⟨y0, y1, y2, y3, y4, y5, y6, y7, y8, y9, z0, z1, z2, z3, z4, z5, z6, z7, z8, z9⟩ := cf10 HBT.out.1
        go_simp
        clear y0 z0 y1 z1 y2 z2 y3 z3 y4 z4 y5 z5 y6 z6 y7 z7 y8 z8 y9 z9
        obtain ⟨bt, hc⟩ := set10 HBT.out.1 (.slice (some ⟨gg, 0, none⟩) L cc) (.slice (some ⟨gb, 0, none⟩) L L) (.int .i64 d0) (.int .i64 d1) (.int .i64 d2) (.int .i64 d3) (.int .i64 d4) (.int .i64 d5) (.int .i64 (-1)) (.bool false)
        have hs := HSQ.out.chg HBT.out.2 hc
        have hr := HRR.out.1.chg hc (fun e => HRR.out.2.2 e) (fun e => by have := HM.out.marks.lt; have := HBT.out.2; omega)
        generalize ((((((((((wv.setCell ⟨tt, 0, none⟩ (.slice (some ⟨gg, 0, none⟩) L cc)).setCell ⟨tt, 1, none⟩ (.slice (some ⟨gb, 0, none⟩) L L)).setCell ⟨tt, 2, none⟩ (.int .i64 d0)).setCell ⟨tt, 3, none⟩ (.int .i64 d1)).setCell ⟨tt, 4, none⟩ (.int .i64 d2)).setCell ⟨tt, 5, none⟩ (.int .i64 d3)).setCell ⟨tt, 6, none⟩ (.int .i64 d4)).setCell ⟨tt, 7, none⟩ (.int .i64 d5)).setCell ⟨tt, 8, none⟩ (.int .i64 (-1))).setCell ⟨tt, 9, none⟩ (.bool false)) = wt at bt hs hr hK ⊢
        have HSQ := Lib.hid hs
        have HQT : Hid (RQt w wt tt gg gb ws [.int .i64 2, .int .i64 1, .int .i64 0, .int .i64 k, .int .i64 2, .int .u64 w0, .int .u64 v0, .int .i64 0] [.int .i64 0, .int .i64 0, .int .i64 0, .int .i64 0, .int .i64 0, .int .u64 0, .int .u64 0, .int .i64 0] [.slice (some ⟨gg, 0, none⟩) L cc, .slice (some ⟨gb, 0, none⟩) L L, .int .i64 d0, .int .i64 d1, .int .i64 d2, .int .i64 d3, .int .i64 d4, .int .i64 d5, .int .i64 (-1), .bool false] [.slice none 0 0, .slice none 0 0, .int .i64 0, .int .i64 0, .int .i64 0, .int .i64 0, .int .i64 0, .int .i64 0, .int .i64 0, .bool false]) := Lib.hid ⟨hs.o, hs.z, hs.y, bt, hs.b, hr, HBT.out.2, HM.out.marks.lt, HRR.out.2.1.1, HRR.out.2.1.2.1, HRR.out.2.1.2.2.1, HRR.out.2.1.2.2.2, HRR.out.2.2⟩
        clear bt hc hs hr
        refine hK.out _ _ (rst_cells HSQ.out) (fun hH4 => ?_)
        clear hK hH3
        try simp only [Act.put, List.setIfInBounds_toArray, List.set_cons_zero, List.set_cons_succ]
        refine take_first 10 (some 7) ?_ rfl rfl (by kernel_rfl) (by kernel_rfl) (by kernel_rfl) (fun _ _ _ h => h) rfl ?hy hH4 ?_
        case hy => (intro w0 hS0; (try dsimp only at hS0); (try go_simp); try with_reducible rfl)
        try simp only [Act.put, List.setIfInBounds_toArray, List.set_cons_zero, List.set_cons_succ]
        refine take_first 11 (some 8) ?_ rfl rfl (by kernel_rfl) (by kernel_rfl) (by kernel_rfl) (fun _ _ _ h => h) rfl ?hy hH4 ?_
        case hy => (intro w0 hS0; (try dsimp only at hS0); (try go_simp); try with_reducible rfl)
        try simp only [Act.put, List.setIfInBounds_toArray, List.set_cons_zero, List.set_cons_succ]
        refine wpAnyH_done (by kernel_rfl) ?_ _
        clear hH4 HSQ HBT HRR
        go_wp2
        go_meet
        case rel => exact ⟨tt, gg, cc, d0, d1, d2, d3, d4, d5, rfl, rfl, rfl, HQT⟩
    case c8x0 =>
      have h0 := HS.out.drew
      generalize W1.drew = wq at h0 hK ⊢
      have HSQ := Lib.hid h0
      clear h0
      go_simp
      have bt := blk_new wq 34 #[.slice none 0 0, .slice none 0 0, .int .i64 0, .int .i64 0, .int .i64 0, .int .i64 0, .int .i64 0, .int .i64 0, .int .i64 0, .bool false] _ rfl
      have hs := HSQ.out.below (bnew (Below.refl _ _) (Obj.cells #[.slice none 0 0, .slice none 0 0, .int .i64 0, .int .i64 0, .int .i64 0, .int .i64 0, .int .i64 0, .int .i64 0, .int .i64 0, .bool false] 34))
      have hlt : w.heap.size + 1 + 1 + 1 < wq.heap.size := HSQ.out.y.lt
      generalize wq.alloc (Obj.cells #[.slice none 0 0, .slice none 0 0, .int .i64 0, .int .i64 0, .int .i64 0, .int .i64 0, .int .i64 0, .int .i64 0, .int .i64 0, .bool false] 34) = wa at bt hs  hK ⊢
      generalize wq.heap.size = tt at bt hlt  hK ⊢
      have HSQ := Lib.hid hs
      have HBT := Lib.hid (And.intro bt hlt)
      clear bt hs hlt
      refine hK.out _ _ (rst_cells HSQ.out) (fun hH1 => ?_)
      clear hK hH0
      try simp only [Act.put, List.setIfInBounds_toArray, List.set_cons_zero, List.set_cons_succ]
      refine wpAnyH_ready (rs := [2]) (by kernel_rfl) (by simp) (AllReadyH.cons rfl (fun K hK => ?_) AllReadyH.nil)
      go_simp
      refine (HU.out _).mono ?_; rintro e wu ⟨rfl, hb⟩
      have HSQ := Lib.hid (HSQ.out.below hb)
      have HBT := Lib.hid (And.intro (HBT.out.1.chg (chg_of_below (fun _ => False) hb) (fun h => h)) HBT.out.2)
      clear hb
      refine hK.out _ _ (rst_cells HSQ.out) (fun hH2 => ?_)
      clear hK hH1
      try simp only [Act.put, List.setIfInBounds_toArray, List.set_cons_zero, List.set_cons_succ]
      refine wpAnyH_ready (rs := [3]) (by kernel_rfl) (by simp) (AllReadyH.cons rfl (fun K hK => ?_) AllReadyH.nil)
      go_simp
      refine (HMS.out _ (HM.out.below HSQ.out.b)).mono ?_; rintro e wv hto
      obtain ⟨gg, cc, d0, d1, d2, d3, d4, d5, he, hr, hgg, hb⟩ := hto
      (try simp only [List.length_set] at he hr)
      rw [HL.out] at he
      subst he
      have hg1 : w.heap.size ≤ gg ∧ gg ≠ w.heap.size ∧ gg ≠ w.heap.size + 1 + 1 ∧ gg ≠ w.heap.size + 1 + 1 + 1 := by have := HSQ.out.o.lt; have := HSQ.out.z.lt; have := HSQ.out.y.lt; have := HSQ.out.b.size; omega
      have hg2 : gg ≠ tt := by have := HBT.out.1.lt; omega
      have HBT := Lib.hid (And.intro (HBT.out.1.chg (chg_of_below (fun _ => False) hb) (fun h => h)) HBT.out.2)
      have HRR := Lib.hid (And.intro hr (And.intro hg1 hg2))
      clear hg2
      have HSQ := Lib.hid (HSQ.out.below hb)
      clear hr hgg hb hg1
      refine hK.out _ _ (rst_cells HSQ.out) (fun hH3 => ?_)
      clear hK hH2
      try simp only [Act.put, List.setIfInBounds_toArray, List.set_cons_zero, List.set_cons_succ]
      refine take_first 4 (some 15) ?_ rfl rfl (by kernel_rfl) (by kernel_rfl) (by kernel_rfl) (fun _ _ _ h => h) rfl ?hy hH3 ?_
      case hy => (intro w0 hS0; (try dsimp only at hS0); (try go_simp); try with_reducible rfl)
      try simp only [Act.put, List.setIfInBounds_toArray, List.set_cons_zero, List.set_cons_succ]
      refine take_first 5 (some 20) ?_ rfl rfl (by kernel_rfl) (by kernel_rfl) (by kernel_rfl) (fun _ _ _ h => h) rfl ?hy hH3 ?_
      case hy => (intro w0 hS0; (try dsimp only at hS0); (try go_simp); try with_reducible rfl)
      try simp only [Act.put, List.setIfInBounds_toArray, List.set_cons_zero, List.set_cons_succ]
      refine take_first 6 (some 21) ?_ rfl rfl (by kernel_rfl) (by kernel_rfl) (by kernel_rfl) (fun _ _ _ h => h) rfl ?hy hH3 ?_
      case hy => (intro w0 hS0; (try dsimp only at hS0); (try go_simp); try with_reducible rfl)
      try simp only [Act.put, List.setIfInBounds_toArray, List.set_cons_zero, List.set_cons_succ]
      refine take_first 7 (some 22) ?_ rfl rfl (by kernel_rfl) (by kernel_rfl) (by kernel_rfl) (fun _ _ _ h => h) rfl ?hy hH3 ?_
      case hy => (intro w0 hS0; (try dsimp only at hS0); (try go_simp); try with_reducible rfl)
      try simp only [Act.put, List.setIfInBounds_toArray, List.set_cons_zero, List.set_cons_succ]
      refine wpAnyH_ready (rs := [9]) (by kernel_rfl) (by simp) (AllReadyH.cons rfl (fun K hK => ?_) AllReadyH.nil)
      obtain ⟨y0, y1, y2, y3, y4, y5, y6, y7, y8, y9, z0, z1, z2, z3, z4, z5, z6, z7, z8, z9⟩ := cf10 HBT.out.1
      go_simp
      clear y0 z0 y1 z1 y2 z2 y3 z3 y4 z4 y5 z5 y6 z6 y7 z7 y8 z8 y9 z9
      obtain ⟨bt, hc⟩ := set10 HBT.out.1 (.slice (some ⟨gg, 0, none⟩) L cc) (.slice (some ⟨gb, 0, none⟩) L L) (.int .i64 d0) (.int .i64 d1) (.int .i64 d2) (.int .i64 d3) (.int .i64 d4) (.int .i64 d5) (.int .i64 (-1)) (.bool false)
      have hs := HSQ.out.chg HBT.out.2 hc
      have hr := HRR.out.1.chg hc (fun e => HRR.out.2.2 e) (fun e => by have := HM.out.marks.lt; have := HBT.out.2; omega)
      generalize ((((((((((wv.setCell ⟨tt, 0, none⟩ (.slice (some ⟨gg, 0, none⟩) L cc)).setCell ⟨tt, 1, none⟩ (.slice (some ⟨gb, 0, none⟩) L L)).setCell ⟨tt, 2, none⟩ (.int .i64 d0)).setCell ⟨tt, 3, none⟩ (.int .i64 d1)).setCell ⟨tt, 4, none⟩ (.int .i64 d2)).setCell ⟨tt, 5, none⟩ (.int .i64 d3)).setCell ⟨tt, 6, none⟩ (.int .i64 d4)).setCell ⟨tt, 7, none⟩ (.int .i64 d5)).setCell ⟨tt, 8, none⟩ (.int .i64 (-1))).setCell ⟨tt, 9, none⟩ (.bool false)) = wt at bt hs hr hK ⊢
      have HSQ := Lib.hid hs
      have HQT : Hid (RQt w wt tt gg gb ws [.int .i64 2, .int .i64 1, .int .i64 0, .int .i64 k, .int .i64 2, .int .u64 w0, .int .u64 v0, .int .i64 0] [.int .i64 0, .int .i64 0, .int .i64 0, .int .i64 0, .int .i64 0, .int .u64 0, .int .u64 0, .int .i64 0] [.slice (some ⟨gg, 0, none⟩) L cc, .slice (some ⟨gb, 0, none⟩) L L, .int .i64 d0, .int .i64 d1, .int .i64 d2, .int .i64 d3, .int .i64 d4, .int .i64 d5, .int .i64 (-1), .bool false] [.slice none 0 0, .slice none 0 0, .int .i64 0, .int .i64 0, .int .i64 0, .int .i64 0, .int .i64 0, .int .i64 0, .int .i64 0, .bool false]) := Lib.hid ⟨hs.o, hs.z, hs.y, bt, hs.b, hr, HBT.out.2, HM.out.marks.lt, HRR.out.2.1.1, HRR.out.2.1.2.1, HRR.out.2.1.2.2.1, HRR.out.2.1.2.2.2, HRR.out.2.2⟩
      clear bt hc hs hr
      refine hK.out _ _ (rst_cells HSQ.out) (fun hH4 => ?_)
      clear hK hH3
      try simp only [Act.put, List.setIfInBounds_toArray, List.set_cons_zero, List.set_cons_succ]
      refine take_first 10 (some 7) ?_ rfl rfl (by kernel_rfl) (by kernel_rfl) (by kernel_rfl) (fun _ _ _ h => h) rfl ?hy hH4 ?_
      case hy => (intro w0 hS0; (try dsimp only at hS0); (try go_simp); try with_reducible rfl)
      try simp only [Act.put, List.setIfInBounds_toArray, List.set_cons_zero, List.set_cons_succ]
      refine take_first 11 (some 8) ?_ rfl rfl (by kernel_rfl) (by kernel_rfl) (by kernel_rfl) (fun _ _ _ h => h) rfl ?hy hH4 ?_
      case hy => (intro w0 hS0; (try dsimp only at hS0); (try go_simp); try with_reducible rfl)
      try simp only [Act.put, List.setIfInBounds_toArray, List.set_cons_zero, List.set_cons_succ]
      refine wpAnyH_done (by kernel_rfl) ?_ _
      clear hH4 HSQ HBT HRR
      go_wp2
      go_meet
      case rel => exact ⟨tt, gg, cc, d0, d1, d2, d3, d4, d5, rfl, rfl, rfl, HQT⟩
  case rest =>
    obtain ⟨tt, gg, cc, d0, d1, d2, d3, d4, d5, rfl, rfl, rfl, HQ⟩ := hcut
    clear HS HU HMS
    obtain ⟨wx, hwx⟩ : ∃ wx : World, wx = wc := ⟨_, rfl⟩
    rw [← hwx] at HQ ⊢
    clear hwx
    obtain ⟨f0, f1, f2, f3, f4, f5, f6, f7, zf0, zf1, zf2, zf3, zf4, zf5, zf6, zf7⟩ := cf8 HQ.out.o
    go_wp2_with fail
    refine (HNX.out _).mono ?_; rintro e w' ⟨rfl, rfl⟩
    go_upto_region 13 with fail
    clear f0 zf0 f1 zf1 f2 zf2 f3 zf3 f4 zf4 f5 zf5 f6 zf6 f7 zf7
    have b0 : Blk ((wx.setCell ⟨w.heap.size, 6, none⟩ (.int .u64 v0)).setCell ⟨w.heap.size, 3, none⟩ (.int .i64 (-1))) (w.heap.size) 44 [.int .i64 2, .int .i64 1, .int .i64 0, .int .i64 (-1), .int .i64 2, .int .u64 w0, .int .u64 v0, .int .i64 0] := ((HQ.out.o.set 6 (.int .u64 v0)).set 3 (.int .i64 (-1)))
    have hch : Chg (fun j => j = w.heap.size) wx ((wx.setCell ⟨w.heap.size, 6, none⟩ (.int .u64 v0)).setCell ⟨w.heap.size, 3, none⟩ (.int .i64 (-1))) := (((Chg.refl (fun j => j = w.heap.size) wx).setCell ⟨w.heap.size, 6, none⟩ (.int .u64 v0) (fun _ => rfl)).setCell ⟨w.heap.size, 3, none⟩ (.int .i64 (-1)) (fun _ => rfl))
    have hs := HQ.out.setO b0 hch
    clear b0 hch
    generalize ((wx.setCell ⟨w.heap.size, 6, none⟩ (.int .u64 v0)).setCell ⟨w.heap.size, 3, none⟩ (.int .i64 (-1))) = wx at hs ⊢
    have HQ := Lib.hid hs
    clear hs
    refine wp_region_held_drew (S := (fun w' => w'.cell? ⟨w.heap.size, 0, none⟩ = some (.int .i64 2) ∧ w'.cell? ⟨w.heap.size, 1, none⟩ = some (.int .i64 1) ∧ w'.cell? ⟨w.heap.size, 2, none⟩ = some (.int .i64 0) ∧ w'.cell? ⟨w.heap.size, 3, none⟩ = some (.int .i64 (-1)) ∧ w'.cell? ⟨w.heap.size, 4, none⟩ = some (.int .i64 2) ∧ w'.cell? ⟨w.heap.size, 5, none⟩ = some (.int .u64 w0) ∧ w'.cell? ⟨w.heap.size, 6, none⟩ = some (.int .u64 v0) ∧ w'.cell? ⟨w.heap.size, 7, none⟩ = some (.int .i64 0) ∧ w'.cell? ⟨tt, 0, none⟩ = some (.slice (some ⟨gg, 0, none⟩) L cc) ∧ w'.cell? ⟨tt, 1, none⟩ = some (.slice (some ⟨gb, 0, none⟩) L L) ∧ w'.cell? ⟨tt, 2, none⟩ = some (.int .i64 d0) ∧ w'.cell? ⟨tt, 3, none⟩ = some (.int .i64 d1) ∧ w'.cell? ⟨tt, 4, none⟩ = some (.int .i64 d2) ∧ w'.cell? ⟨tt, 5, none⟩ = some (.int .i64 d3) ∧ w'.cell? ⟨tt, 6, none⟩ = some (.int .i64 d4) ∧ w'.cell? ⟨tt, 7, none⟩ = some (.int .i64 d5) ∧ w'.cell? ⟨tt, 8, none⟩ = some (.int .i64 (-1)) ∧ w'.cell? ⟨tt, 9, none⟩ = some (.bool false))) (by kernel_rfl) (rqt_cells HQ.out.drew) (fun hH0 => ?_)
    refine take_first 0 (some 61) ?_ rfl rfl (by kernel_rfl) (by kernel_rfl) (by kernel_rfl) (fun _ _ _ h => h) rfl ?hy hH0 ?_
    case hy => (intro w0 hS0; (try dsimp only at hS0); (try go_simp); try with_reducible rfl)
    try simp only [Act.put, List.setIfInBounds_toArray, List.set_cons_zero, List.set_cons_succ]
    refine take_first 1 (some 62) ?_ rfl rfl (by kernel_rfl) (by kernel_rfl) (by kernel_rfl) (fun _ _ _ h => h) rfl ?hy hH0 ?_
    case hy => (intro w0 hS0; (try dsimp only at hS0); (try go_simp); try with_reducible rfl)
    try simp only [Act.put, List.setIfInBounds_toArray, List.set_cons_zero, List.set_cons_succ]
    refine take_first 2 (some 63) ?_ rfl rfl (by kernel_rfl) (by kernel_rfl) (by kernel_rfl) (fun _ _ _ h => h) rfl ?hy hH0 ?_
    case hy => (intro w0 hS0; (try dsimp only at hS0); (try go_simp); try with_reducible rfl)
    try simp only [Act.put, List.setIfInBounds_toArray, List.set_cons_zero, List.set_cons_succ]
    refine take_first 4 (some 65) ?_ rfl rfl (by kernel_rfl) (by kernel_rfl) (by kernel_rfl) (fun _ _ _ h => h) rfl ?hy hH0 ?_
    case hy => (intro w0 hS0; (try dsimp only at hS0); (try go_simp); try with_reducible rfl)
    try simp only [Act.put, List.setIfInBounds_toArray, List.set_cons_zero, List.set_cons_succ]
    refine wpAnyH_ready (rs := [3]) (by kernel_rfl) (by simp) (AllReadyH.cons rfl (fun K hK => ?_) AllReadyH.nil)
    have h0 := HQ.out.drew
    generalize wx.drew = wq at h0 hK ⊢
    have HQ := Lib.hid h0
    clear h0
    go_simp
    refine (rend_calls _ _ _ _ _ _ _ _ _ _ _).mono ?_; rintro e wu ⟨rfl, hb⟩
    have HQ := Lib.hid (HQ.out.below hb)
    clear hb
    refine hK.out _ _ (rqt_cells HQ.out) (fun hH1 => ?_)
    clear hK hH0
    try simp only [Act.put, List.setIfInBounds_toArray, List.set_cons_zero, List.set_cons_succ]
    refine wpAnyH_ready (rs := [5]) (by kernel_rfl) (by simp) (AllReadyH.cons rfl (fun K hK => ?_) AllReadyH.nil)
    obtain ⟨y0, y1, y2, y3, y4, y5, y6, y7, z0, z1, z2, z3, z4, z5, z6, z7⟩ := cf8 HQ.out.z
    go_simp
    clear y0 z0 y1 z1 y2 z2 y3 z3 y4 z4 y5 z5 y6 z6 y7 z7
    obtain ⟨bt, hc⟩ := set8 HQ.out.z (.int .i64 2) (.int .i64 1) (.int .i64 0) (.int .i64 (-1)) (.int .i64 6) (.int .u64 w0) (.int .u64 v0) (.int .i64 0)
    have hs := HQ.out.setZ bt hc
    generalize ((((((((wu.setCell ⟨w.heap.size + 1 + 1, 0, none⟩ (.int .i64 2)).setCell ⟨w.heap.size + 1 + 1, 1, none⟩ (.int .i64 1)).setCell ⟨w.heap.size + 1 + 1, 2, none⟩ (.int .i64 0)).setCell ⟨w.heap.size + 1 + 1, 3, none⟩ (.int .i64 (-1))).setCell ⟨w.heap.size + 1 + 1, 4, none⟩ (.int .i64 6)).setCell ⟨w.heap.size + 1 + 1, 5, none⟩ (.int .u64 w0)).setCell ⟨w.heap.size + 1 + 1, 6, none⟩ (.int .u64 v0)).setCell ⟨w.heap.size + 1 + 1, 7, none⟩ (.int .i64 0)) = wz at hs hK ⊢
    have HQ := Lib.hid hs
    clear bt hc hs
    refine hK.out _ _ (rqt_cells HQ.out) (fun hH2 => ?_)
    clear hK hH1
    try simp only [Act.put, List.setIfInBounds_toArray, List.set_cons_zero, List.set_cons_succ]
    refine wpAnyH_ready (rs := [6]) (by kernel_rfl) (by simp) (AllReadyH.cons rfl (fun K hK => ?_) AllReadyH.nil)
    obtain ⟨y0, y1, y2, y3, y4, y5, y6, y7, y8, y9, z0, z1, z2, z3, z4, z5, z6, z7, z8, z9⟩ := cf10 HQ.out.y
    go_simp
    clear y0 z0 y1 z1 y2 z2 y3 z3 y4 z4 y5 z5 y6 z6 y7 z7 y8 z8 y9 z9
    obtain ⟨bt, hc⟩ := set10 HQ.out.y (.slice (some ⟨gg, 0, none⟩) L cc) (.slice (some ⟨gb, 0, none⟩) L L) (.int .i64 d0) (.int .i64 d1) (.int .i64 d2) (.int .i64 d3) (.int .i64 d4) (.int .i64 d5) (.int .i64 (-1)) (.bool false)
    have hs := HQ.out.setY bt hc
    generalize ((((((((((wz.setCell ⟨w.heap.size + 1 + 1 + 1, 0, none⟩ (.slice (some ⟨gg, 0, none⟩) L cc)).setCell ⟨w.heap.size + 1 + 1 + 1, 1, none⟩ (.slice (some ⟨gb, 0, none⟩) L L)).setCell ⟨w.heap.size + 1 + 1 + 1, 2, none⟩ (.int .i64 d0)).setCell ⟨w.heap.size + 1 + 1 + 1, 3, none⟩ (.int .i64 d1)).setCell ⟨w.heap.size + 1 + 1 + 1, 4, none⟩ (.int .i64 d2)).setCell ⟨w.heap.size + 1 + 1 + 1, 5, none⟩ (.int .i64 d3)).setCell ⟨w.heap.size + 1 + 1 + 1, 6, none⟩ (.int .i64 d4)).setCell ⟨w.heap.size + 1 + 1 + 1, 7, none⟩ (.int .i64 d5)).setCell ⟨w.heap.size + 1 + 1 + 1, 8, none⟩ (.int .i64 (-1))).setCell ⟨w.heap.size + 1 + 1 + 1, 9, none⟩ (.bool false)) = wy at hs hK ⊢
    have HQ := Lib.hid hs
    clear bt hc hs
    refine hK.out _ _ (rqt_cells HQ.out) (fun hH3 => ?_)
    clear hK hH2
    try simp only [Act.put, List.setIfInBounds_toArray, List.set_cons_zero, List.set_cons_succ]
    refine wpAnyH_done (by kernel_rfl) ?_ _
    clear hH3
    obtain ⟨g0, g1, g2, g3, g4, g5, g6, g7, _, _, _, _, _, _, _, _⟩ := cf8 HQ.out.z
    obtain ⟨l0, l1, l2, l3, l4, l5, l6, l7, l8, l9, _, _, _, _, _, _, _, _, _, _⟩ := cf10 HQ.out.y
    go_wp2
    refine bodyPost_ret (v := .tuple #[.agg #[.int .i64 2, .int .i64 1, .int .i64 0, .int .i64 (-1), .int .i64 6, .int .u64 w0, .int .u64 v0, .int .i64 0], .agg #[.slice (some ⟨gg, 0, none⟩) L cc, .slice (some ⟨gb, 0, none⟩) L L, .int .i64 d0, .int .i64 d1, .int .i64 d2, .int .i64 d3, .int .i64 d4, .int .i64 d5, .int .i64 (-1), .bool false]]) (by simp [results, Try.results11, go_sem, g0, g1, g2, g3, g4, g5, g6, g7, l0, l1, l2, l3, l4, l5, l6, l7, l8, l9]) rfl ⟨gg, cc, d0, d1, d2, d3, d4, d5, by (try rw [List.length_set]); rw [HL.out], HQ.out.r, .inr HQ.out.g0, HQ.out.b⟩
end Go.Proofs.Ytjmooohhndjmiaa
