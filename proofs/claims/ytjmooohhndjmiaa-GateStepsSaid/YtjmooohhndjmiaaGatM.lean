/- gate: the steps of a Least. (Printed by gengat3.py.) -/
import Derived.Test.YtjmooohhndjmiaaGatL
import Derived.Deep.LoopGhost
import Derived.Deep.CutBlock
import Derived.Deep.DeepCutAuto
import Derived.Deep.RegionLaw
namespace Go.Proofs.Ytjmooohhndjmiaa
open Go.RowKit Go.Deep
set_option linter.unusedVariables false
set_option linter.unusedSimpArgs false

/-- the least word in use that is not below one; 'k + fuel': there is none. -/
def nextD (wd : Nat) : Nat → Nat → Nat
  | 0, k => k
  | n + 1, k => if wd.testBit k then k else nextD wd n (k + 1)
set_option maxHeartbeats 4000000 in
set_option maxRecDepth 100000 in
theorem least0 (b bw bb bo A M C k wd v code : Nat) (ws : List Nat) (w : World) (hb : Blk w bo 88 (gCells A M C 2 k 0 wd v code)) (hm : MemAt w b bw bb ws) (hg : GOk A M C) (hk : k < M) (hl : A + 1 + M ≤ ws.length ∧ C < ws.length) (hn : bo ≠ b ∧ bo ≠ bw ∧ bo ≠ bb) :
    Calls Try.prog 37 #[.pointer (some ⟨bo, 0, none⟩), .pointer (some ⟨b, 0, none⟩)] w fun e w' => e = .returned (.tuple #[]) ∧ Blk w' bo 88 (if nextD (ws.getD A 0) (M - 0) 0 < M then gCells A M C 2 (nextD (ws.getD A 0) (M - 0) 0) 2 (ws.getD A 0) v code else gCells A M C 2 M 6 (ws.getD A 0) v 0) ∧ MemAt w' b bw bb ws ∧ Chg (fun j => j = b ∨ j = bw ∨ j = bo) w w' := by
  obtain ⟨x, hxx⟩ : ∃ x, ws.getD A 0 = x := ⟨_, rfl⟩
  have HXX := Lib.hid hxx
  have hxl := hm.getD_lt A
  rw [hxx] at hxl
  (try rw [hxx] at ht)
  (try rw [hxx])
  have HXL := Lib.hid hxl
  clear hxx hxl
  obtain ⟨R, hR⟩ : ∃ R, (if nextD x (M - 0) 0 < M then gCells A M C 2 (nextD x (M - 0) 0) 2 x v code else gCells A M C 2 M 6 x v 0) = R := ⟨_, rfl⟩
  rw [hR]
  have HR := Lib.hid hR
  clear hR
  obtain ⟨y0, y1, y2, y3, y4, y5, y6, y7, y8, y9⟩ := g_cells hb
  have z5 := hb.free 5
  have z6 := hb.free 6
  have z7 := hb.free 7
  have z8 := hb.free 8
  have HB0 := Lib.hid hb
  have HM0 := Lib.hid hm
  have HG := Lib.hid hg
  have HK := Lib.hid hk
  have hml := hm.most
  have HLT := Lib.hid hl
  have HN := Lib.hid hn
  have H1 := Lib.hid (show Blk w bo 88 (gCells A M C 2 k 0 wd v code) ∧ MemAt w b bw bb ws ∧ Chg (fun j => j = b ∨ j = bw ∨ j = bo) w w from ⟨hb, hm, Chg.refl _ _⟩)
  clear hb hm hg hn hl
  go_enter Try.func37, Try.ntmps37
  go_upto_region 1 with fail
  have HL := Lib.hid (load_calls b bw bb ws A w H1.out.2.1 (by have := HLT.out; have := HK.out; omega))
  rw [HXX.out] at HL
  go_wp2_with fail
  refine HL.out.mono ?_; rintro e w2 ⟨rfl, hm2, hc2⟩
  have hB2 := H1.out.1.chg hc2 HN.out.1
  have H2 := Lib.hid (And.intro hB2 (And.intro hm2 (H1.out.2.2.trans hc2 (fun _ _ h => .inl h))))
  clear y0 y1 y2 y3 y4 y5 y6 y7 y8 y9 z5 z6 z7 z8 hB2 hm2 hc2 HL
  obtain ⟨y0, y1, y2, y3, y4, y5, y6, y7, y8, y9⟩ := g_cells H2.out.1
  have z5 := H2.out.1.free 5
  have z6 := H2.out.1.free 6
  have z7 := H2.out.1.free 7
  have z8 := H2.out.1.free 8
  go_upto_region 4 with fail
  have hB3 : Blk (((w2.setCell ⟨bo, 7, none⟩ (.int .u64 (x : Nat))).setCell ⟨bo, 5, none⟩ (.int .i64 0)).setCell ⟨bo, 6, none⟩ (.int .i64 2)) bo 88 (gCells A M C 2 0 2 x v code) := (((H2.out.1.set 7 (.int .u64 (x : Nat))).set 5 (.int .i64 0)).set 6 (.int .i64 2))
  have hM3 := (((H2.out.2.1.other ⟨bo, 7, none⟩ (.int .u64 (x : Nat)) (fun e => HN.out.1 e.symm) (fun e => HN.out.2.1 e.symm) (fun e => HN.out.2.2 e.symm)).other ⟨bo, 5, none⟩ (.int .i64 0) (fun e => HN.out.1 e.symm) (fun e => HN.out.2.1 e.symm) (fun e => HN.out.2.2 e.symm)).other ⟨bo, 6, none⟩ (.int .i64 2) (fun e => HN.out.1 e.symm) (fun e => HN.out.2.1 e.symm) (fun e => HN.out.2.2 e.symm))
  have hc3 := (((H2.out.2.2.setCell ⟨bo, 7, none⟩ (.int .u64 (x : Nat)) (fun _ => .inr (.inr rfl))).setCell ⟨bo, 5, none⟩ (.int .i64 0) (fun _ => .inr (.inr rfl))).setCell ⟨bo, 6, none⟩ (.int .i64 2) (fun _ => .inr (.inr rfl)))
  generalize (((w2.setCell ⟨bo, 7, none⟩ (.int .u64 (x : Nat))).setCell ⟨bo, 5, none⟩ (.int .i64 0)).setCell ⟨bo, 6, none⟩ (.int .i64 2)) = w3 at hB3 hM3 hc3 ⊢
  have H3 := Lib.hid (And.intro hB3 (And.intro hM3 hc3))
  clear hB3 hM3 hc3 y0 y1 y2 y3 y4 y5 y6 y7 y8 y9 z5 z6 z7 z8
  obtain ⟨y0, y1, y2, y3, y4, y5, y6, y7, y8, y9⟩ := g_cells H3.out.1
  have z5 := H3.out.1.free 5
  have z6 := H3.out.1.free 6
  have z7 := H3.out.1.free 7
  have z8 := H3.out.1.free 8
  have HWL := Lib.hid (show x < 18446744073709551616 from HXL.out)
  go_loopg [51] (M - 0) (fun g u wr => ∃ j : Nat, 0 ≤ j ∧ j ≤ M ∧ g = M - j ∧ Hid (nextD x (M - 0) 0 = nextD x (M - j) j) ∧ Hid (Blk wr bo 88 (gCells A M C 2 j 2 x v code) ∧ MemAt wr b bw bb ws ∧ Chg (fun j => j = b ∨ j = bw ∨ j = bo) w wr))
  case atStart => exact ⟨0, Nat.le_refl _, by omega, rfl, Lib.hid rfl, H3⟩
  case round =>
    obtain ⟨j, hj0, hjM, rfl, HNX, HI⟩ := hrel
    clear y0 y1 y2 y3 y4 y5 y6 y7 y8 y9 z5 z6 z7 z8
    obtain ⟨y0, y1, y2, y3, y4, y5, y6, y7, y8, y9⟩ := g_cells HI.out.1
    have z5 := HI.out.1.free 5
    have z6 := HI.out.1.free 6
    have z7 := HI.out.1.free 7
    have z8 := HI.out.1.free 8
    by_cases hlt : j < M
    · have hj64 : j < 64 := by have := HG.out.m8; omega
      have HJ := Lib.hid (show j < 8 by have := HG.out.m8; omega)
      have i1 : (j : Int) < (M : Int) := by omega
      clear hlt
      go_wp2_with fail
      go_quiet (fail)
      have hbN : Below wr.heap.size wr (wr.drewN nq) := ⟨rfl, rfl, rfl, Nat.le_refl _, fun _ _ => rfl⟩
      have HID := Lib.hid (And.intro (HI.out.1.drewN nq) (And.intro (HI.out.2.1.below hbN) (HI.out.2.2.drewN nq)))
      clear hbN y0 y1 y2 y3 y4 y5 y6 y7 y8 y9 z5 z6 z7 z8
      generalize wr.drewN nq = wq at HID ⊢
      obtain ⟨y0, y1, y2, y3, y4, y5, y6, y7, y8, y9⟩ := g_cells HID.out.1
      have z5 := HID.out.1.free 5
      have z6 := HID.out.1.free 6
      have z7 := HID.out.1.free 7
      have z8 := HID.out.1.free 8
      have HIN := Lib.hid (gin_calls bo A M C 2 j 2 x v code x wq HID.out.1 HJ.out HWL.out)
      cases htb : (x).testBit j with
      | true =>
        rw [htb] at HIN
        have HF : Hid (Blk wq bo 88 R ∧ MemAt wq b bw bb ws ∧ Chg (fun j => j = b ∨ j = bw ∨ j = bo) w wq) := Lib.hid (by
          have h1 : nextD x (M - 0) 0 = j := by
            rw [HNX.out]
            obtain ⟨n, hn⟩ : ∃ n, M - j = n + 1 := ⟨M - j - 1, by omega⟩
            rw [hn]
            show (if (x).testBit j then j else _) = j
            rw [if_pos htb]
          rw [← HR.out, h1, if_pos (by omega)]
          exact HID.out)
        clear htb
        go_wp2_with fail
        refine HIN.out.mono ?_; rintro e w' ⟨rfl, rfl⟩
        go_wp2
        exact bodyPost_ret (v := .tuple #[]) (by simp [results, Try.results37, go_sem]) rfl ⟨rfl, HF.out⟩
      | false =>
        rw [htb] at HIN
        have HN2 : Hid (nextD x (M - 0) 0 = nextD x (M - (j + 1)) (j + 1)) := Lib.hid (by
          rw [HNX.out]
          obtain ⟨n, hn⟩ : ∃ n, M - j = n + 1 := ⟨M - j - 1, by omega⟩
          rw [hn, show M - (j + 1) = n by omega]
          show (if (x).testBit j then j else nextD x n (j + 1)) = _
          rw [if_neg (by rw [htb]; decide)])
        clear htb
        go_wp2_with fail
        refine HIN.out.mono ?_; rintro e w' ⟨rfl, rfl⟩
        have hB3 : Blk (wq.setCell ⟨bo, 5, none⟩ (.int .i64 ((j : Int) + 1))) bo 88 (gCells A M C 2 (j + 1) 2 x v code) := by
          have h := HID.out.1.set 5 (.int .i64 ((j : Int) + 1))
          simpa [gCells] using h
        have hM3 := HID.out.2.1.other ⟨bo, 5, none⟩ (.int .i64 ((j : Int) + 1)) (fun e => HN.out.1 e.symm) (fun e => HN.out.2.1 e.symm) (fun e => HN.out.2.2 e.symm)
        have hc3 := HID.out.2.2.setCell ⟨bo, 5, none⟩ (.int .i64 ((j : Int) + 1)) (fun _ => .inr (.inr rfl))
        have HI3 := Lib.hid (And.intro hB3 (And.intro hM3 hc3))
        clear hB3 hM3 hc3
        go_wp2
        go_roundg (M - (j + 1))
        case measure => omega
        case rel => exact ⟨j + 1, by omega, by omega, rfl, HN2, HI3⟩
    · obtain rfl : M = j := by omega
      clear hlt
      have hnR : R = gCells A M C 2 M 6 x v 0 := by
        rw [← HR.out, HNX.out, Nat.sub_self]
        show (if M < M then _ else _) = _
        rw [if_neg (by omega)]
      subst hnR
      go_wp2_with fail
      go_quiet (fail)
      have hbN : Below wr.heap.size wr (wr.drewN nq) := ⟨rfl, rfl, rfl, Nat.le_refl _, fun _ _ => rfl⟩
      have HID := Lib.hid (And.intro (HI.out.1.drewN nq) (And.intro (HI.out.2.1.below hbN) (HI.out.2.2.drewN nq)))
      clear hbN y0 y1 y2 y3 y4 y5 y6 y7 y8 y9 z5 z6 z7 z8
      generalize wr.drewN nq = wq at HID ⊢
      obtain ⟨y0, y1, y2, y3, y4, y5, y6, y7, y8, y9⟩ := g_cells HID.out.1
      have z5 := HID.out.1.free 5
      have z6 := HID.out.1.free 6
      have z7 := HID.out.1.free 7
      have z8 := HID.out.1.free 8
      have HE := Lib.hid (gend_calls bo A M C 2 M 2 x v code 0 v wq HID.out.1)
      go_wp2_with fail
      refine HE.out.mono ?_; rintro e w5 ⟨rfl, hB4, hc4⟩
      have HF := Lib.hid (And.intro hB4 (And.intro (HID.out.2.1.chg hc4 (fun e => HN.out.1 e.symm) (fun e => HN.out.2.1 e.symm) (fun e => HN.out.2.2 e.symm)) (HID.out.2.2.trans hc4 (fun _ _ h => .inr (.inr h)))))
      clear hB4 hc4
      go_wp2
      go_end0
      exact ⟨rfl, HF.out⟩
    
set_option maxHeartbeats 4000000 in
set_option maxRecDepth 100000 in
theorem least2a (b bw bb bo A M C k wd v code : Nat) (ws : List Nat) (w : World) (hb : Blk w bo 88 (gCells A M C 2 k 2 wd v code)) (hm : MemAt w b bw bb ws) (hg : GOk A M C) (hk : k < M) (hl : A + 1 + M ≤ ws.length ∧ C < ws.length) (hn : bo ≠ b ∧ bo ≠ bw ∧ bo ≠ bb) (hwl : wd < 18446744073709551616) (hxv : ws.getD (A + 1 + k) 0 < v) :
    Calls Try.prog 37 #[.pointer (some ⟨bo, 0, none⟩), .pointer (some ⟨b, 0, none⟩)] w fun e w' => e = .returned (.tuple #[]) ∧ Blk w' bo 88 (if nextD wd (M - (k + 1)) (k + 1) < M then gCells A M C 2 (nextD wd (M - (k + 1)) (k + 1)) 2 wd (ws.getD (A + 1 + k) 0) code else gCells A M C 2 M 6 wd (ws.getD (A + 1 + k) 0) 0) ∧ MemAt w' b bw bb ws ∧ Chg (fun j => j = b ∨ j = bw ∨ j = bo) w w' := by
  obtain ⟨x, hxx⟩ : ∃ x, ws.getD (A + 1 + k) 0 = x := ⟨_, rfl⟩
  have HXX := Lib.hid hxx
  rw [hxx] at hxv
  (try rw [hxx])
  have hk8 : k < 8 := by have := hg.m8; omega
  have HXL := Lib.hid hwl
  clear hxx hwl
  obtain ⟨R, hR⟩ : ∃ R, (if nextD wd (M - (k + 1)) (k + 1) < M then gCells A M C 2 (nextD wd (M - (k + 1)) (k + 1)) 2 wd x code else gCells A M C 2 M 6 wd x 0) = R := ⟨_, rfl⟩
  rw [hR]
  have HR := Lib.hid hR
  clear hR
  obtain ⟨y0, y1, y2, y3, y4, y5, y6, y7, y8, y9⟩ := g_cells hb
  have z5 := hb.free 5
  have z6 := hb.free 6
  have z7 := hb.free 7
  have z8 := hb.free 8
  have HB0 := Lib.hid hb
  have HM0 := Lib.hid hm
  have HG := Lib.hid hg
  have HK := Lib.hid hk
  have hml := hm.most
  have HLT := Lib.hid hl
  have HN := Lib.hid hn
  have H1 := Lib.hid (show Blk w bo 88 (gCells A M C 2 k 2 wd v code) ∧ MemAt w b bw bb ws ∧ Chg (fun j => j = b ∨ j = bw ∨ j = bo) w w from ⟨hb, hm, Chg.refl _ _⟩)
  clear hb hm hg hn hl
  go_enter Try.func37, Try.ntmps37
  have HWD := fun w => Lib.hid (gword_calls A M C k w HG.out HK.out)
  go_upto_region 2 with fail
  go_region_law (first | (rw [if_pos (by kernel_rfl)]; go_simp; go_at_call 42; (refine (HWD _).out.mono ?_); rintro e w1 ⟨rfl, hb1⟩; have hB1 := H1.out.1.chg (chg_of_below (fun _ => False) ((Below.refl _ w).drew.trans hb1)) (fun h => h); have hM1 := H1.out.2.1.below ((Below.refl _ w).drew.trans hb1); have hc1 := chg_of_below (fun j => j = b ∨ j = bw ∨ j = bo) ((Below.refl _ w).drew.trans hb1); have H2 := Lib.hid (And.intro hB1 (And.intro hM1 hc1)); clear hB1 hM1 hc1 hb1 y0 y1 y2 y3 y4 y5 y6 y7 y8 y9 z5 z6 z7 z8; obtain ⟨y0, y1, y2, y3, y4, y5, y6, y7, y8, y9⟩ := g_cells H2.out.1; have z8 := H2.out.1.free 8) | (rw [if_pos (by kernel_rfl)]; go_simp; go_at_call 21; have HL := Lib.hid (load_calls b bw bb ws (A + 1 + k) w1 H2.out.2.1 (by have := HLT.out; have := HK.out; omega)); rw [HXX.out] at HL; (refine HL.out.mono ?_); rintro e w2 ⟨rfl, hm2, hc2⟩; have hB2 := H2.out.1.chg hc2 HN.out.1; have H3 := Lib.hid (And.intro hB2 (And.intro hm2 (H2.out.2.2.trans hc2 (fun _ _ h => .inl h)))); clear hB2 hm2 hc2 HL y0 y1 y2 y3 y4 y5 y6 y7 y8 y9 z8; obtain ⟨y0, y1, y2, y3, y4, y5, y6, y7, y8, y9⟩ := g_cells H3.out.1; have z8 := H3.out.1.free 8; have z5 := H3.out.1.free 5))
  all_goals
    go_upto_region 4 with fail
    have hB3 : Blk ((w2.setCell ⟨bo, 8, none⟩ (.int .u64 (x : Nat))).setCell ⟨bo, 5, none⟩ (.int .i64 ((k : Int) + 1))) bo 88 (gCells A M C 2 (k + 1) 2 wd x code) := ((H3.out.1.set 8 (.int .u64 (x : Nat))).set 5 (.int .i64 ((k : Int) + 1)))
    have hM3 := ((H3.out.2.1.other ⟨bo, 8, none⟩ (.int .u64 (x : Nat)) (fun e => HN.out.1 e.symm) (fun e => HN.out.2.1 e.symm) (fun e => HN.out.2.2 e.symm)).other ⟨bo, 5, none⟩ (.int .i64 ((k : Int) + 1)) (fun e => HN.out.1 e.symm) (fun e => HN.out.2.1 e.symm) (fun e => HN.out.2.2 e.symm))
    have hc3 := ((H3.out.2.2.setCell ⟨bo, 8, none⟩ (.int .u64 (x : Nat)) (fun _ => .inr (.inr rfl))).setCell ⟨bo, 5, none⟩ (.int .i64 ((k : Int) + 1)) (fun _ => .inr (.inr rfl)))
    generalize ((w2.setCell ⟨bo, 8, none⟩ (.int .u64 (x : Nat))).setCell ⟨bo, 5, none⟩ (.int .i64 ((k : Int) + 1))) = w4 at hB3 hM3 hc3 ⊢
    have H4 := Lib.hid (And.intro hB3 (And.intro hM3 hc3))
    clear hB3 hM3 hc3 y0 y1 y2 y3 y4 y5 y6 y7 y8 y9 z8 z5
    obtain ⟨y0, y1, y2, y3, y4, y5, y6, y7, y8, y9⟩ := g_cells H4.out.1
    have z5 := H4.out.1.free 5
    have z6 := H4.out.1.free 6
    have z7 := H4.out.1.free 7
    have z8 := H4.out.1.free 8
    have HWL := Lib.hid (show wd < 18446744073709551616 from HXL.out)
    go_loopg [51] (M - (k + 1)) (fun g u wr => ∃ j : Nat, (k + 1) ≤ j ∧ j ≤ M ∧ g = M - j ∧ Hid (nextD wd (M - (k + 1)) (k + 1) = nextD wd (M - j) j) ∧ Hid (Blk wr bo 88 (gCells A M C 2 j 2 wd x code) ∧ MemAt wr b bw bb ws ∧ Chg (fun j => j = b ∨ j = bw ∨ j = bo) w wr))
    case atStart => exact ⟨(k + 1), Nat.le_refl _, by have := HK.out; omega, rfl, Lib.hid rfl, H4⟩
    case round =>
      obtain ⟨j, hj0, hjM, rfl, HNX, HI⟩ := hrel
      clear y0 y1 y2 y3 y4 y5 y6 y7 y8 y9 z5 z6 z7 z8
      obtain ⟨y0, y1, y2, y3, y4, y5, y6, y7, y8, y9⟩ := g_cells HI.out.1
      have z5 := HI.out.1.free 5
      have z6 := HI.out.1.free 6
      have z7 := HI.out.1.free 7
      have z8 := HI.out.1.free 8
      by_cases hlt : j < M
      · have hj64 : j < 64 := by have := HG.out.m8; omega
        have HJ := Lib.hid (show j < 8 by have := HG.out.m8; omega)
        have i1 : (j : Int) < (M : Int) := by omega
        clear hlt
        go_wp2_with fail
        go_quiet (fail)
        have hbN : Below wr.heap.size wr (wr.drewN nq) := ⟨rfl, rfl, rfl, Nat.le_refl _, fun _ _ => rfl⟩
        have HID := Lib.hid (And.intro (HI.out.1.drewN nq) (And.intro (HI.out.2.1.below hbN) (HI.out.2.2.drewN nq)))
        clear hbN y0 y1 y2 y3 y4 y5 y6 y7 y8 y9 z5 z6 z7 z8
        generalize wr.drewN nq = wq at HID ⊢
        obtain ⟨y0, y1, y2, y3, y4, y5, y6, y7, y8, y9⟩ := g_cells HID.out.1
        have z5 := HID.out.1.free 5
        have z6 := HID.out.1.free 6
        have z7 := HID.out.1.free 7
        have z8 := HID.out.1.free 8
        have HIN := Lib.hid (gin_calls bo A M C 2 j 2 wd x code wd wq HID.out.1 HJ.out HWL.out)
        cases htb : (wd).testBit j with
        | true =>
          rw [htb] at HIN
          have HF : Hid (Blk wq bo 88 R ∧ MemAt wq b bw bb ws ∧ Chg (fun j => j = b ∨ j = bw ∨ j = bo) w wq) := Lib.hid (by
            have h1 : nextD wd (M - (k + 1)) (k + 1) = j := by
              rw [HNX.out]
              obtain ⟨n, hn⟩ : ∃ n, M - j = n + 1 := ⟨M - j - 1, by omega⟩
              rw [hn]
              show (if (wd).testBit j then j else _) = j
              rw [if_pos htb]
            rw [← HR.out, h1, if_pos (by omega)]
            exact HID.out)
          clear htb
          go_wp2_with fail
          refine HIN.out.mono ?_; rintro e w' ⟨rfl, rfl⟩
          go_wp2
          exact bodyPost_ret (v := .tuple #[]) (by simp [results, Try.results37, go_sem]) rfl ⟨rfl, HF.out⟩
        | false =>
          rw [htb] at HIN
          have HN2 : Hid (nextD wd (M - (k + 1)) (k + 1) = nextD wd (M - (j + 1)) (j + 1)) := Lib.hid (by
            rw [HNX.out]
            obtain ⟨n, hn⟩ : ∃ n, M - j = n + 1 := ⟨M - j - 1, by omega⟩
            rw [hn, show M - (j + 1) = n by omega]
            show (if (wd).testBit j then j else nextD wd n (j + 1)) = _
            rw [if_neg (by rw [htb]; decide)])
          clear htb
          go_wp2_with fail
          refine HIN.out.mono ?_; rintro e w' ⟨rfl, rfl⟩
          have hB3 : Blk (wq.setCell ⟨bo, 5, none⟩ (.int .i64 ((j : Int) + 1))) bo 88 (gCells A M C 2 (j + 1) 2 wd x code) := by
            have h := HID.out.1.set 5 (.int .i64 ((j : Int) + 1))
            simpa [gCells] using h
          have hM3 := HID.out.2.1.other ⟨bo, 5, none⟩ (.int .i64 ((j : Int) + 1)) (fun e => HN.out.1 e.symm) (fun e => HN.out.2.1 e.symm) (fun e => HN.out.2.2 e.symm)
          have hc3 := HID.out.2.2.setCell ⟨bo, 5, none⟩ (.int .i64 ((j : Int) + 1)) (fun _ => .inr (.inr rfl))
          have HI3 := Lib.hid (And.intro hB3 (And.intro hM3 hc3))
          clear hB3 hM3 hc3
          go_wp2
          go_roundg (M - (j + 1))
          case measure => omega
          case rel => exact ⟨j + 1, by omega, by omega, rfl, HN2, HI3⟩
      · obtain rfl : M = j := by omega
        clear hlt
        have hnR : R = gCells A M C 2 M 6 wd x 0 := by
          rw [← HR.out, HNX.out, Nat.sub_self]
          show (if M < M then _ else _) = _
          rw [if_neg (by omega)]
        subst hnR
        go_wp2_with fail
        go_quiet (fail)
        have hbN : Below wr.heap.size wr (wr.drewN nq) := ⟨rfl, rfl, rfl, Nat.le_refl _, fun _ _ => rfl⟩
        have HID := Lib.hid (And.intro (HI.out.1.drewN nq) (And.intro (HI.out.2.1.below hbN) (HI.out.2.2.drewN nq)))
        clear hbN y0 y1 y2 y3 y4 y5 y6 y7 y8 y9 z5 z6 z7 z8
        generalize wr.drewN nq = wq at HID ⊢
        obtain ⟨y0, y1, y2, y3, y4, y5, y6, y7, y8, y9⟩ := g_cells HID.out.1
        have z5 := HID.out.1.free 5
        have z6 := HID.out.1.free 6
        have z7 := HID.out.1.free 7
        have z8 := HID.out.1.free 8
        have HE := Lib.hid (gend_calls bo A M C 2 M 2 wd x code 0 x wq HID.out.1)
        go_wp2_with fail
        refine HE.out.mono ?_; rintro e w5 ⟨rfl, hB4, hc4⟩
        have HF := Lib.hid (And.intro hB4 (And.intro (HID.out.2.1.chg hc4 (fun e => HN.out.1 e.symm) (fun e => HN.out.2.1 e.symm) (fun e => HN.out.2.2 e.symm)) (HID.out.2.2.trans hc4 (fun _ _ h => .inr (.inr h)))))
        clear hB4 hc4
        go_wp2
        go_end0
        exact ⟨rfl, HF.out⟩
      

set_option maxHeartbeats 4000000 in
set_option maxRecDepth 100000 in
theorem least2b (b bw bb bo A M C k wd v code : Nat) (ws : List Nat) (w : World) (hb : Blk w bo 88 (gCells A M C 2 k 2 wd v code)) (hm : MemAt w b bw bb ws) (hg : GOk A M C) (hk : k < M) (hl : A + 1 + M ≤ ws.length ∧ C < ws.length) (hn : bo ≠ b ∧ bo ≠ bw ∧ bo ≠ bb) (hwl : wd < 18446744073709551616) (hxv : ¬ ws.getD (A + 1 + k) 0 < v) :
    Calls Try.prog 37 #[.pointer (some ⟨bo, 0, none⟩), .pointer (some ⟨b, 0, none⟩)] w fun e w' => e = .returned (.tuple #[]) ∧ Blk w' bo 88 (if nextD wd (M - (k + 1)) (k + 1) < M then gCells A M C 2 (nextD wd (M - (k + 1)) (k + 1)) 2 wd v code else gCells A M C 2 M 6 wd v 0) ∧ MemAt w' b bw bb ws ∧ Chg (fun j => j = b ∨ j = bw ∨ j = bo) w w' := by
  obtain ⟨x, hxx⟩ : ∃ x, ws.getD (A + 1 + k) 0 = x := ⟨_, rfl⟩
  have HXX := Lib.hid hxx
  rw [hxx] at hxv
  (try rw [hxx])
  have hk8 : k < 8 := by have := hg.m8; omega
  have HXL := Lib.hid hwl
  clear hxx hwl
  obtain ⟨R, hR⟩ : ∃ R, (if nextD wd (M - (k + 1)) (k + 1) < M then gCells A M C 2 (nextD wd (M - (k + 1)) (k + 1)) 2 wd v code else gCells A M C 2 M 6 wd v 0) = R := ⟨_, rfl⟩
  rw [hR]
  have HR := Lib.hid hR
  clear hR
  obtain ⟨y0, y1, y2, y3, y4, y5, y6, y7, y8, y9⟩ := g_cells hb
  have z5 := hb.free 5
  have z6 := hb.free 6
  have z7 := hb.free 7
  have z8 := hb.free 8
  have HB0 := Lib.hid hb
  have HM0 := Lib.hid hm
  have HG := Lib.hid hg
  have HK := Lib.hid hk
  have hml := hm.most
  have HLT := Lib.hid hl
  have HN := Lib.hid hn
  have H1 := Lib.hid (show Blk w bo 88 (gCells A M C 2 k 2 wd v code) ∧ MemAt w b bw bb ws ∧ Chg (fun j => j = b ∨ j = bw ∨ j = bo) w w from ⟨hb, hm, Chg.refl _ _⟩)
  clear hb hm hg hn hl
  go_enter Try.func37, Try.ntmps37
  have HWD := fun w => Lib.hid (gword_calls A M C k w HG.out HK.out)
  go_upto_region 2 with fail
  go_region_law (first | (rw [if_pos (by kernel_rfl)]; go_simp; go_at_call 42; (refine (HWD _).out.mono ?_); rintro e w1 ⟨rfl, hb1⟩; have hB1 := H1.out.1.chg (chg_of_below (fun _ => False) ((Below.refl _ w).drew.trans hb1)) (fun h => h); have hM1 := H1.out.2.1.below ((Below.refl _ w).drew.trans hb1); have hc1 := chg_of_below (fun j => j = b ∨ j = bw ∨ j = bo) ((Below.refl _ w).drew.trans hb1); have H2 := Lib.hid (And.intro hB1 (And.intro hM1 hc1)); clear hB1 hM1 hc1 hb1 y0 y1 y2 y3 y4 y5 y6 y7 y8 y9 z5 z6 z7 z8; obtain ⟨y0, y1, y2, y3, y4, y5, y6, y7, y8, y9⟩ := g_cells H2.out.1; have z8 := H2.out.1.free 8) | (rw [if_pos (by kernel_rfl)]; go_simp; go_at_call 21; have HL := Lib.hid (load_calls b bw bb ws (A + 1 + k) w1 H2.out.2.1 (by have := HLT.out; have := HK.out; omega)); rw [HXX.out] at HL; (refine HL.out.mono ?_); rintro e w2 ⟨rfl, hm2, hc2⟩; have hB2 := H2.out.1.chg hc2 HN.out.1; have H3 := Lib.hid (And.intro hB2 (And.intro hm2 (H2.out.2.2.trans hc2 (fun _ _ h => .inl h)))); clear hB2 hm2 hc2 HL y0 y1 y2 y3 y4 y5 y6 y7 y8 y9 z8; obtain ⟨y0, y1, y2, y3, y4, y5, y6, y7, y8, y9⟩ := g_cells H3.out.1; have z8 := H3.out.1.free 8; have z5 := H3.out.1.free 5))
  all_goals
    go_upto_region 4 with fail
    have hB3 : Blk ((w2.setCell ⟨bo, 8, none⟩ (.int .u64 (v : Nat))).setCell ⟨bo, 5, none⟩ (.int .i64 ((k : Int) + 1))) bo 88 (gCells A M C 2 (k + 1) 2 wd v code) := ((H3.out.1.set 8 (.int .u64 (v : Nat))).set 5 (.int .i64 ((k : Int) + 1)))
    have hM3 := ((H3.out.2.1.other ⟨bo, 8, none⟩ (.int .u64 (v : Nat)) (fun e => HN.out.1 e.symm) (fun e => HN.out.2.1 e.symm) (fun e => HN.out.2.2 e.symm)).other ⟨bo, 5, none⟩ (.int .i64 ((k : Int) + 1)) (fun e => HN.out.1 e.symm) (fun e => HN.out.2.1 e.symm) (fun e => HN.out.2.2 e.symm))
    have hc3 := ((H3.out.2.2.setCell ⟨bo, 8, none⟩ (.int .u64 (v : Nat)) (fun _ => .inr (.inr rfl))).setCell ⟨bo, 5, none⟩ (.int .i64 ((k : Int) + 1)) (fun _ => .inr (.inr rfl)))
    generalize ((w2.setCell ⟨bo, 8, none⟩ (.int .u64 (v : Nat))).setCell ⟨bo, 5, none⟩ (.int .i64 ((k : Int) + 1))) = w4 at hB3 hM3 hc3 ⊢
    have H4 := Lib.hid (And.intro hB3 (And.intro hM3 hc3))
    clear hB3 hM3 hc3 y0 y1 y2 y3 y4 y5 y6 y7 y8 y9 z8 z5
    obtain ⟨y0, y1, y2, y3, y4, y5, y6, y7, y8, y9⟩ := g_cells H4.out.1
    have z5 := H4.out.1.free 5
    have z6 := H4.out.1.free 6
    have z7 := H4.out.1.free 7
    have z8 := H4.out.1.free 8
    have HWL := Lib.hid (show wd < 18446744073709551616 from HXL.out)
    go_loopg [51] (M - (k + 1)) (fun g u wr => ∃ j : Nat, (k + 1) ≤ j ∧ j ≤ M ∧ g = M - j ∧ Hid (nextD wd (M - (k + 1)) (k + 1) = nextD wd (M - j) j) ∧ Hid (Blk wr bo 88 (gCells A M C 2 j 2 wd v code) ∧ MemAt wr b bw bb ws ∧ Chg (fun j => j = b ∨ j = bw ∨ j = bo) w wr))
    case atStart => exact ⟨(k + 1), Nat.le_refl _, by have := HK.out; omega, rfl, Lib.hid rfl, H4⟩
    case round =>
      obtain ⟨j, hj0, hjM, rfl, HNX, HI⟩ := hrel
      clear y0 y1 y2 y3 y4 y5 y6 y7 y8 y9 z5 z6 z7 z8
      obtain ⟨y0, y1, y2, y3, y4, y5, y6, y7, y8, y9⟩ := g_cells HI.out.1
      have z5 := HI.out.1.free 5
      have z6 := HI.out.1.free 6
      have z7 := HI.out.1.free 7
      have z8 := HI.out.1.free 8
      by_cases hlt : j < M
      · have hj64 : j < 64 := by have := HG.out.m8; omega
        have HJ := Lib.hid (show j < 8 by have := HG.out.m8; omega)
        have i1 : (j : Int) < (M : Int) := by omega
        clear hlt
        go_wp2_with fail
        go_quiet (fail)
        have hbN : Below wr.heap.size wr (wr.drewN nq) := ⟨rfl, rfl, rfl, Nat.le_refl _, fun _ _ => rfl⟩
        have HID := Lib.hid (And.intro (HI.out.1.drewN nq) (And.intro (HI.out.2.1.below hbN) (HI.out.2.2.drewN nq)))
        clear hbN y0 y1 y2 y3 y4 y5 y6 y7 y8 y9 z5 z6 z7 z8
        generalize wr.drewN nq = wq at HID ⊢
        obtain ⟨y0, y1, y2, y3, y4, y5, y6, y7, y8, y9⟩ := g_cells HID.out.1
        have z5 := HID.out.1.free 5
        have z6 := HID.out.1.free 6
        have z7 := HID.out.1.free 7
        have z8 := HID.out.1.free 8
        have HIN := Lib.hid (gin_calls bo A M C 2 j 2 wd v code wd wq HID.out.1 HJ.out HWL.out)
        cases htb : (wd).testBit j with
        | true =>
          rw [htb] at HIN
          have HF : Hid (Blk wq bo 88 R ∧ MemAt wq b bw bb ws ∧ Chg (fun j => j = b ∨ j = bw ∨ j = bo) w wq) := Lib.hid (by
            have h1 : nextD wd (M - (k + 1)) (k + 1) = j := by
              rw [HNX.out]
              obtain ⟨n, hn⟩ : ∃ n, M - j = n + 1 := ⟨M - j - 1, by omega⟩
              rw [hn]
              show (if (wd).testBit j then j else _) = j
              rw [if_pos htb]
            rw [← HR.out, h1, if_pos (by omega)]
            exact HID.out)
          clear htb
          go_wp2_with fail
          refine HIN.out.mono ?_; rintro e w' ⟨rfl, rfl⟩
          go_wp2
          exact bodyPost_ret (v := .tuple #[]) (by simp [results, Try.results37, go_sem]) rfl ⟨rfl, HF.out⟩
        | false =>
          rw [htb] at HIN
          have HN2 : Hid (nextD wd (M - (k + 1)) (k + 1) = nextD wd (M - (j + 1)) (j + 1)) := Lib.hid (by
            rw [HNX.out]
            obtain ⟨n, hn⟩ : ∃ n, M - j = n + 1 := ⟨M - j - 1, by omega⟩
            rw [hn, show M - (j + 1) = n by omega]
            show (if (wd).testBit j then j else nextD wd n (j + 1)) = _
            rw [if_neg (by rw [htb]; decide)])
          clear htb
          go_wp2_with fail
          refine HIN.out.mono ?_; rintro e w' ⟨rfl, rfl⟩
          have hB3 : Blk (wq.setCell ⟨bo, 5, none⟩ (.int .i64 ((j : Int) + 1))) bo 88 (gCells A M C 2 (j + 1) 2 wd v code) := by
            have h := HID.out.1.set 5 (.int .i64 ((j : Int) + 1))
            simpa [gCells] using h
          have hM3 := HID.out.2.1.other ⟨bo, 5, none⟩ (.int .i64 ((j : Int) + 1)) (fun e => HN.out.1 e.symm) (fun e => HN.out.2.1 e.symm) (fun e => HN.out.2.2 e.symm)
          have hc3 := HID.out.2.2.setCell ⟨bo, 5, none⟩ (.int .i64 ((j : Int) + 1)) (fun _ => .inr (.inr rfl))
          have HI3 := Lib.hid (And.intro hB3 (And.intro hM3 hc3))
          clear hB3 hM3 hc3
          go_wp2
          go_roundg (M - (j + 1))
          case measure => omega
          case rel => exact ⟨j + 1, by omega, by omega, rfl, HN2, HI3⟩
      · obtain rfl : M = j := by omega
        clear hlt
        have hnR : R = gCells A M C 2 M 6 wd v 0 := by
          rw [← HR.out, HNX.out, Nat.sub_self]
          show (if M < M then _ else _) = _
          rw [if_neg (by omega)]
        subst hnR
        go_wp2_with fail
        go_quiet (fail)
        have hbN : Below wr.heap.size wr (wr.drewN nq) := ⟨rfl, rfl, rfl, Nat.le_refl _, fun _ _ => rfl⟩
        have HID := Lib.hid (And.intro (HI.out.1.drewN nq) (And.intro (HI.out.2.1.below hbN) (HI.out.2.2.drewN nq)))
        clear hbN y0 y1 y2 y3 y4 y5 y6 y7 y8 y9 z5 z6 z7 z8
        generalize wr.drewN nq = wq at HID ⊢
        obtain ⟨y0, y1, y2, y3, y4, y5, y6, y7, y8, y9⟩ := g_cells HID.out.1
        have z5 := HID.out.1.free 5
        have z6 := HID.out.1.free 6
        have z7 := HID.out.1.free 7
        have z8 := HID.out.1.free 8
        have HE := Lib.hid (gend_calls bo A M C 2 M 2 wd v code 0 v wq HID.out.1)
        go_wp2_with fail
        refine HE.out.mono ?_; rintro e w5 ⟨rfl, hB4, hc4⟩
        have HF := Lib.hid (And.intro hB4 (And.intro (HID.out.2.1.chg hc4 (fun e => HN.out.1 e.symm) (fun e => HN.out.2.1 e.symm) (fun e => HN.out.2.2 e.symm)) (HID.out.2.2.trans hc4 (fun _ _ h => .inr (.inr h)))))
        clear hB4 hc4
        go_wp2
        go_end0
        exact ⟨rfl, HF.out⟩
      

end Go.Proofs.Ytjmooohhndjmiaa
