/- gate: the steps of a Join. (Printed by gengate.py.) -/
import Derived.Test.YtjmooohhndjmiaaGat
import Derived.Deep.Cut
import Derived.StillTailTactics
namespace Go.Proofs.Ytjmooohhndjmiaa
open Go.RowKit Go.Deep
set_option linter.unusedVariables false
set_option linter.unusedSimpArgs false

/-- an operation whose guard says no is passed over. -/
theorem skip_first {P : Program} {ops : Array Oper} {Q : Exit → Act → World → Prop} {md : Region.Mode} {S : World → Prop} (i : Nat) {oi : Oper} (d : Option Tmp) {fuel : Nat} {listed : Array Bool} {a : Act} {w : World} (hi : ops[i]? = some oi) (hd : oi.dst = d)
    (hs : Region.noSelect ops = true) (hf : Region.free md ops listed i = true) (hr : (Region.ready md ops listed).contains i = true)
    (hQ : ∀ c a w, Q (.panic c) (a.put d undef) w → Q (.panic c) a w) (hw : Region.wanted oi (yielded ops a.tmps) = false) (hS : S w)
    (h : wpAnyH P md ops Q S fuel (listed.setIfInBounds i true) (a.put d undef) w) : wpAnyH P md ops Q S (fuel + 1) listed a w := by
  subst hd
  exact wpAnyH_take hi hs hf hr hQ (Or.inr ⟨hw, rfl⟩) hS h
theorem take_first {P : Program} {ops : Array Oper} {Q : Exit → Act → World → Prop} {md : Region.Mode} {S : World → Prop} (i : Nat) {oi : Oper} (d : Option Tmp) (v : Value) {fuel : Nat} {listed : Array Bool} {a : Act} {w : World} (hi : ops[i]? = some oi) (hd : oi.dst = d)
    (hs : Region.noSelect ops = true) (hf : Region.free md ops listed i = true) (hr : (Region.ready md ops listed).contains i = true)
    (hQ : ∀ c a w, Q (.panic c) (a.put d v) w → Q (.panic c) a w) (hw : Region.wanted oi (yielded ops a.tmps) = true) (hy : ∀ w, S w → (execOp a.eval oi).run P w = .ok (.value v) w) (hS : S w)
    (h : wpAnyH P md ops Q S fuel (listed.setIfInBounds i true) (a.put d v) w) : wpAnyH P md ops Q S (fuel + 1) listed a w := by
  subst hd
  exact wpAnyH_take hi hs hf hr hQ (Or.inl ⟨hw, hy⟩) hS h
set_option maxHeartbeats 4000000 in
set_option maxRecDepth 100000 in
theorem join0a (b bw bb bo A M C k wd v code : Nat) (ws : List Nat) (w : World) (hb : Blk w bo 88 (gCells A M C 0 k 0 wd v code)) (hm : MemAt w b bw bb ws) (hg : GOk A M C) (hk : k < M) (hl : A + 1 + M ≤ ws.length ∧ C < ws.length) (hn : bo ≠ b ∧ bo ≠ bw ∧ bo ≠ bb) (ht : (ws.getD A 0).testBit k = true) :
    Calls Try.prog 38 #[.pointer (some ⟨bo, 0, none⟩), .pointer (some ⟨b, 0, none⟩)] w fun e w' => e = .returned (.tuple #[]) ∧ Blk w' bo 88 (gCells A M C 0 k 6 wd 0 14) ∧ MemAt w' b bw bb ws ∧ Chg (fun j => j = b ∨ j = bw ∨ j = bo) w w' := by
  have HTB := Lib.hid ht
  clear ht
  obtain ⟨y0, y1, y2, y3, y4, y5, y6, y7, y8, y9⟩ := g_cells hb
  have HB0 := Lib.hid hb
  have HM0 := Lib.hid hm
  have HWD := fun w => Lib.hid (gword_calls A M C k w hg hk)
  have HG := Lib.hid hg
  have HK := Lib.hid hk
  have hml := hm.most
  have HLT := Lib.hid hl
  have HN := Lib.hid hn
  clear hb hm hg hn hl
  go_enter Try.func38, Try.ntmps38
  go_upto_region 0 with fail
  go_still_tail 8, (by kernel_rfl)
  change wpList _ _ _ _ _ w.drew
  go_wp2_with fail
  refine (HWD _).out.mono ?_; rintro e w1 ⟨rfl, hb1⟩
  have hc1 := chg_of_below (fun j => j = b ∨ j = bw ∨ j = bo) ((Below.refl _ w).drew.trans hb1)
  have hB1 := HB0.out.chg (chg_of_below (fun _ => False) ((Below.refl _ w).drew.trans hb1)) (fun h => h)
  have hM1 := HM0.out.below ((Below.refl _ w).drew.trans hb1)
  clear y0 y1 y2 y3 y4 y5 y6 y7 y8 y9 hb1
  have H1 := Lib.hid (And.intro hB1 (And.intro hM1 hc1))
  obtain ⟨y0, y1, y2, y3, y4, y5, y6, y7, y8, y9⟩ := g_cells hB1
  have z6 := hB1.free 6
  have z8 := hB1.free 8
  clear hB1 hM1 hc1
  have HL := Lib.hid (load_calls b bw bb ws A w1 H1.out.2.1 (by have := HLT.out; have := HK.out; omega))
  go_wp2_with fail
  refine HL.out.mono ?_; rintro e w2 ⟨rfl, hm2, hc2⟩
  have hB2 := H1.out.1.chg hc2 HN.out.1
  have H2 := Lib.hid (And.intro hB2 (And.intro hm2 (H1.out.2.2.trans hc2 (fun _ _ h => .inl h))))
  clear y0 y1 y2 y3 y4 y5 y6 y7 y8 y9 z6 z8
  obtain ⟨y0, y1, y2, y3, y4, y5, y6, y7, y8, y9⟩ := g_cells hB2
  have z6 := hB2.free 6
  have z8 := hB2.free 8
  clear hB2 hm2 hc2 HL
  have HI := Lib.hid (gin_calls bo A M C 0 k 0 wd v code (ws.getD A 0) w2 H2.out.1 (by have := HK.out; have := HG.out.m8; omega) (HM0.out.getD_lt A))
  rw [HTB.out] at HI
  go_wp2_with fail
  refine HI.out.mono ?_; rintro e w' ⟨rfl, rfl⟩
  have hB3 : Blk (w2.setCell ⟨bo, 6, none⟩ (.int .i64 1)) bo 88 (gCells A M C 0 k 1 wd v code) := H2.out.1.set 6 (.int .i64 1)
  have hM3 := H2.out.2.1.other ⟨bo, 6, none⟩ (.int .i64 1) (fun e => HN.out.1 e.symm) (fun e => HN.out.2.1 e.symm) (fun e => HN.out.2.2 e.symm)
  have hc3 := H2.out.2.2.setCell ⟨bo, 6, none⟩ (.int .i64 1) (fun _ => .inr (.inr rfl))
  have H3 := Lib.hid (And.intro hB3 (And.intro hM3 hc3))
  clear hB3 hM3 hc3
  have HE := Lib.hid (gend_calls bo A M C 0 k 1 wd v code 14 0 (w2.setCell ⟨bo, 6, none⟩ (.int .i64 1)) H3.out.1)
  go_wp2_with fail
  refine HE.out.mono ?_; rintro e w4 ⟨rfl, hB4, hc4⟩
  have HF := Lib.hid (And.intro hB4 (And.intro (H3.out.2.1.chg hc4 (fun e => HN.out.1 e.symm) (fun e => HN.out.2.1 e.symm) (fun e => HN.out.2.2 e.symm)) (H3.out.2.2.trans hc4 (fun _ _ h => .inr (.inr h)))))
  clear hB4 hc4
  go_wp2
  go_end0
  exact ⟨rfl, HF.out⟩

set_option maxHeartbeats 4000000 in
set_option maxRecDepth 100000 in
theorem join0b (b bw bb bo A M C k wd v code : Nat) (ws : List Nat) (w : World) (hb : Blk w bo 88 (gCells A M C 0 k 0 wd v code)) (hm : MemAt w b bw bb ws) (hg : GOk A M C) (hk : k < M) (hl : A + 1 + M ≤ ws.length ∧ C < ws.length) (hn : bo ≠ b ∧ bo ≠ bw ∧ bo ≠ bb) (ht : (ws.getD A 0).testBit k = false) :
    Calls Try.prog 38 #[.pointer (some ⟨bo, 0, none⟩), .pointer (some ⟨b, 0, none⟩)] w fun e w' => e = .returned (.tuple #[]) ∧ Blk w' bo 88 (gCells A M C 0 k 1 wd v code) ∧ MemAt w' b bw bb ws ∧ Chg (fun j => j = b ∨ j = bw ∨ j = bo) w w' := by
  have HTB := Lib.hid ht
  clear ht
  obtain ⟨y0, y1, y2, y3, y4, y5, y6, y7, y8, y9⟩ := g_cells hb
  have HB0 := Lib.hid hb
  have HM0 := Lib.hid hm
  have HWD := fun w => Lib.hid (gword_calls A M C k w hg hk)
  have HG := Lib.hid hg
  have HK := Lib.hid hk
  have hml := hm.most
  have HLT := Lib.hid hl
  have HN := Lib.hid hn
  clear hb hm hg hn hl
  go_enter Try.func38, Try.ntmps38
  go_upto_region 0 with fail
  go_still_tail 8, (by kernel_rfl)
  change wpList _ _ _ _ _ w.drew
  go_wp2_with fail
  refine (HWD _).out.mono ?_; rintro e w1 ⟨rfl, hb1⟩
  have hc1 := chg_of_below (fun j => j = b ∨ j = bw ∨ j = bo) ((Below.refl _ w).drew.trans hb1)
  have hB1 := HB0.out.chg (chg_of_below (fun _ => False) ((Below.refl _ w).drew.trans hb1)) (fun h => h)
  have hM1 := HM0.out.below ((Below.refl _ w).drew.trans hb1)
  clear y0 y1 y2 y3 y4 y5 y6 y7 y8 y9 hb1
  have H1 := Lib.hid (And.intro hB1 (And.intro hM1 hc1))
  obtain ⟨y0, y1, y2, y3, y4, y5, y6, y7, y8, y9⟩ := g_cells hB1
  have z6 := hB1.free 6
  have z8 := hB1.free 8
  clear hB1 hM1 hc1
  have HL := Lib.hid (load_calls b bw bb ws A w1 H1.out.2.1 (by have := HLT.out; have := HK.out; omega))
  go_wp2_with fail
  refine HL.out.mono ?_; rintro e w2 ⟨rfl, hm2, hc2⟩
  have hB2 := H1.out.1.chg hc2 HN.out.1
  have H2 := Lib.hid (And.intro hB2 (And.intro hm2 (H1.out.2.2.trans hc2 (fun _ _ h => .inl h))))
  clear y0 y1 y2 y3 y4 y5 y6 y7 y8 y9 z6 z8
  obtain ⟨y0, y1, y2, y3, y4, y5, y6, y7, y8, y9⟩ := g_cells hB2
  have z6 := hB2.free 6
  have z8 := hB2.free 8
  clear hB2 hm2 hc2 HL
  have HI := Lib.hid (gin_calls bo A M C 0 k 0 wd v code (ws.getD A 0) w2 H2.out.1 (by have := HK.out; have := HG.out.m8; omega) (HM0.out.getD_lt A))
  rw [HTB.out] at HI
  go_wp2_with fail
  refine HI.out.mono ?_; rintro e w' ⟨rfl, rfl⟩
  have hB3 : Blk (w2.setCell ⟨bo, 6, none⟩ (.int .i64 1)) bo 88 (gCells A M C 0 k 1 wd v code) := H2.out.1.set 6 (.int .i64 1)
  have hM3 := H2.out.2.1.other ⟨bo, 6, none⟩ (.int .i64 1) (fun e => HN.out.1 e.symm) (fun e => HN.out.2.1 e.symm) (fun e => HN.out.2.2 e.symm)
  have hc3 := H2.out.2.2.setCell ⟨bo, 6, none⟩ (.int .i64 1) (fun _ => .inr (.inr rfl))
  have H3 := Lib.hid (And.intro hB3 (And.intro hM3 hc3))
  clear hB3 hM3 hc3
  go_wp2
  go_end0
  exact ⟨rfl, H3.out⟩

set_option maxHeartbeats 4000000 in
set_option maxRecDepth 100000 in
theorem join1 (b bw bb bo A M C k wd v code : Nat) (ws : List Nat) (w : World) (hb : Blk w bo 88 (gCells A M C 0 k 1 wd v code)) (hm : MemAt w b bw bb ws) (hg : GOk A M C) (hk : k < M) (hl : A + 1 + M ≤ ws.length ∧ C < ws.length) (hn : bo ≠ b ∧ bo ≠ bw ∧ bo ≠ bb) :
    Calls Try.prog 38 #[.pointer (some ⟨bo, 0, none⟩), .pointer (some ⟨b, 0, none⟩)] w fun e w' => e = .returned (.tuple #[]) ∧ Blk w' bo 88 (gCells A M C 0 k 2 wd (ws.getD C 0) code) ∧ MemAt w' b bw bb ws ∧ Chg (fun j => j = b ∨ j = bw ∨ j = bo) w w' := by
  obtain ⟨x, hxx⟩ : ∃ x, ws.getD C 0 = x := ⟨_, rfl⟩
  have HXX := Lib.hid hxx
  rw [hxx]
  clear hxx
  obtain ⟨y0, y1, y2, y3, y4, y5, y6, y7, y8, y9⟩ := g_cells hb
  have HB0 := Lib.hid hb
  have HM0 := Lib.hid hm
  have HWD := fun w => Lib.hid (gword_calls A M C k w hg hk)
  have HG := Lib.hid hg
  have HK := Lib.hid hk
  have hml := hm.most
  have HLT := Lib.hid hl
  have HN := Lib.hid hn
  clear hb hm hg hn hl
  go_enter Try.func38, Try.ntmps38
  go_upto_region 0 with fail
  go_still_tail 8, (by kernel_rfl)
  change wpList _ _ _ _ _ w.drew
  go_wp2_with fail
  refine (HWD _).out.mono ?_; rintro e w1 ⟨rfl, hb1⟩
  have hc1 := chg_of_below (fun j => j = b ∨ j = bw ∨ j = bo) ((Below.refl _ w).drew.trans hb1)
  have hB1 := HB0.out.chg (chg_of_below (fun _ => False) ((Below.refl _ w).drew.trans hb1)) (fun h => h)
  have hM1 := HM0.out.below ((Below.refl _ w).drew.trans hb1)
  clear y0 y1 y2 y3 y4 y5 y6 y7 y8 y9 hb1
  have H1 := Lib.hid (And.intro hB1 (And.intro hM1 hc1))
  obtain ⟨y0, y1, y2, y3, y4, y5, y6, y7, y8, y9⟩ := g_cells hB1
  have z6 := hB1.free 6
  have z8 := hB1.free 8
  clear hB1 hM1 hc1
  have HL := Lib.hid (load_calls b bw bb ws C w1 H1.out.2.1 (by have := HLT.out; have := HK.out; omega))
  go_wp2_with fail
  rw [HXX.out] at HL
  refine HL.out.mono ?_; rintro e w2 ⟨rfl, hm2, hc2⟩
  have hB2 := H1.out.1.chg hc2 HN.out.1
  have H2 := Lib.hid (And.intro hB2 (And.intro hm2 (H1.out.2.2.trans hc2 (fun _ _ h => .inl h))))
  clear y0 y1 y2 y3 y4 y5 y6 y7 y8 y9 z6 z8
  obtain ⟨y0, y1, y2, y3, y4, y5, y6, y7, y8, y9⟩ := g_cells hB2
  have z6 := hB2.free 6
  have z8 := hB2.free 8
  clear hB2 hm2 hc2 HL
  have hB3 : Blk ((w2.setCell ⟨bo, 8, none⟩ (.int .u64 (x : Nat))).setCell ⟨bo, 6, none⟩ (.int .i64 2)) bo 88 (gCells A M C 0 k 2 wd x code) := (H2.out.1.set 8 (.int .u64 (x : Nat))).set 6 (.int .i64 2)
  have hM3 := (H2.out.2.1.other ⟨bo, 8, none⟩ (.int .u64 (x : Nat)) (fun e => HN.out.1 e.symm) (fun e => HN.out.2.1 e.symm) (fun e => HN.out.2.2 e.symm)).other ⟨bo, 6, none⟩ (.int .i64 2) (fun e => HN.out.1 e.symm) (fun e => HN.out.2.1 e.symm) (fun e => HN.out.2.2 e.symm)
  have hc3 := (H2.out.2.2.setCell ⟨bo, 8, none⟩ (.int .u64 (x : Nat)) (fun _ => .inr (.inr rfl))).setCell ⟨bo, 6, none⟩ (.int .i64 2) (fun _ => .inr (.inr rfl))
  have H3 := Lib.hid (And.intro hB3 (And.intro hM3 hc3))
  clear hB3 hM3 hc3
  go_wp2
  go_end0
  exact ⟨rfl, H3.out⟩

set_option maxHeartbeats 4000000 in
set_option maxRecDepth 100000 in
theorem join4 (b bw bb bo A M C k wd v code : Nat) (ws : List Nat) (w : World) (hb : Blk w bo 88 (gCells A M C 0 k 4 wd v code)) (hm : MemAt w b bw bb ws) (hg : GOk A M C) (hk : k < M) (hl : A + 1 + M ≤ ws.length ∧ C < ws.length) (hn : bo ≠ b ∧ bo ≠ bw ∧ bo ≠ bb) :
    Calls Try.prog 38 #[.pointer (some ⟨bo, 0, none⟩), .pointer (some ⟨b, 0, none⟩)] w fun e w' => e = .returned (.tuple #[]) ∧ Blk w' bo 88 (gCells A M C 0 k 5 wd (ws.getD C 0) code) ∧ MemAt w' b bw bb ws ∧ Chg (fun j => j = b ∨ j = bw ∨ j = bo) w w' := by
  obtain ⟨x, hxx⟩ : ∃ x, ws.getD C 0 = x := ⟨_, rfl⟩
  have HXX := Lib.hid hxx
  rw [hxx]
  clear hxx
  obtain ⟨y0, y1, y2, y3, y4, y5, y6, y7, y8, y9⟩ := g_cells hb
  have HB0 := Lib.hid hb
  have HM0 := Lib.hid hm
  have HWD := fun w => Lib.hid (gword_calls A M C k w hg hk)
  have HG := Lib.hid hg
  have HK := Lib.hid hk
  have hml := hm.most
  have HLT := Lib.hid hl
  have HN := Lib.hid hn
  clear hb hm hg hn hl
  go_enter Try.func38, Try.ntmps38
  go_upto_region 0 with fail
  go_still_tail 8, (by kernel_rfl)
  change wpList _ _ _ _ _ w.drew
  go_wp2_with fail
  refine (HWD _).out.mono ?_; rintro e w1 ⟨rfl, hb1⟩
  have hc1 := chg_of_below (fun j => j = b ∨ j = bw ∨ j = bo) ((Below.refl _ w).drew.trans hb1)
  have hB1 := HB0.out.chg (chg_of_below (fun _ => False) ((Below.refl _ w).drew.trans hb1)) (fun h => h)
  have hM1 := HM0.out.below ((Below.refl _ w).drew.trans hb1)
  clear y0 y1 y2 y3 y4 y5 y6 y7 y8 y9 hb1
  have H1 := Lib.hid (And.intro hB1 (And.intro hM1 hc1))
  obtain ⟨y0, y1, y2, y3, y4, y5, y6, y7, y8, y9⟩ := g_cells hB1
  have z6 := hB1.free 6
  have z8 := hB1.free 8
  clear hB1 hM1 hc1
  have HL := Lib.hid (load_calls b bw bb ws C w1 H1.out.2.1 (by have := HLT.out; have := HK.out; omega))
  go_wp2_with fail
  rw [HXX.out] at HL
  refine HL.out.mono ?_; rintro e w2 ⟨rfl, hm2, hc2⟩
  have hB2 := H1.out.1.chg hc2 HN.out.1
  have H2 := Lib.hid (And.intro hB2 (And.intro hm2 (H1.out.2.2.trans hc2 (fun _ _ h => .inl h))))
  clear y0 y1 y2 y3 y4 y5 y6 y7 y8 y9 z6 z8
  obtain ⟨y0, y1, y2, y3, y4, y5, y6, y7, y8, y9⟩ := g_cells hB2
  have z6 := hB2.free 6
  have z8 := hB2.free 8
  clear hB2 hm2 hc2 HL
  have hB3 : Blk ((w2.setCell ⟨bo, 8, none⟩ (.int .u64 (x : Nat))).setCell ⟨bo, 6, none⟩ (.int .i64 5)) bo 88 (gCells A M C 0 k 5 wd x code) := (H2.out.1.set 8 (.int .u64 (x : Nat))).set 6 (.int .i64 5)
  have hM3 := (H2.out.2.1.other ⟨bo, 8, none⟩ (.int .u64 (x : Nat)) (fun e => HN.out.1 e.symm) (fun e => HN.out.2.1 e.symm) (fun e => HN.out.2.2 e.symm)).other ⟨bo, 6, none⟩ (.int .i64 5) (fun e => HN.out.1 e.symm) (fun e => HN.out.2.1 e.symm) (fun e => HN.out.2.2 e.symm)
  have hc3 := (H2.out.2.2.setCell ⟨bo, 8, none⟩ (.int .u64 (x : Nat)) (fun _ => .inr (.inr rfl))).setCell ⟨bo, 6, none⟩ (.int .i64 5) (fun _ => .inr (.inr rfl))
  have H3 := Lib.hid (And.intro hB3 (And.intro hM3 hc3))
  clear hB3 hM3 hc3
  go_wp2
  go_end0
  exact ⟨rfl, H3.out⟩

set_option maxHeartbeats 4000000 in
set_option maxRecDepth 100000 in
theorem join2 (b bw bb bo A M C k wd v code : Nat) (ws : List Nat) (w : World) (hb : Blk w bo 88 (gCells A M C 0 k 2 wd v code)) (hm : MemAt w b bw bb ws) (hg : GOk A M C) (hk : k < M) (hl : A + 1 + M ≤ ws.length ∧ C < ws.length) (hn : bo ≠ b ∧ bo ≠ bw ∧ bo ≠ bb) (hv : v < 18446744073709551616) :
    Calls Try.prog 38 #[.pointer (some ⟨bo, 0, none⟩), .pointer (some ⟨b, 0, none⟩)] w fun e w' => e = .returned (.tuple #[]) ∧ Blk w' bo 88 (gCells A M C 0 k 3 wd v code) ∧ MemAt w' b bw bb (ws.set (A + 1 + k) v) ∧ Chg (fun j => j = b ∨ j = bw ∨ j = bo) w w' := by
  have HV := Lib.hid hv
  clear hv
  obtain ⟨y0, y1, y2, y3, y4, y5, y6, y7, y8, y9⟩ := g_cells hb
  have HB0 := Lib.hid hb
  have HM0 := Lib.hid hm
  have HWD := fun w => Lib.hid (gword_calls A M C k w hg hk)
  have HG := Lib.hid hg
  have HK := Lib.hid hk
  have hml := hm.most
  have HLT := Lib.hid hl
  have HN := Lib.hid hn
  clear hb hm hg hn hl
  go_enter Try.func38, Try.ntmps38
  go_upto_region 0 with fail
  go_still_tail 8, (by kernel_rfl)
  change wpList _ _ _ _ _ w.drew
  go_wp2_with fail
  refine (HWD _).out.mono ?_; rintro e w1 ⟨rfl, hb1⟩
  have hc1 := chg_of_below (fun j => j = b ∨ j = bw ∨ j = bo) ((Below.refl _ w).drew.trans hb1)
  have hB1 := HB0.out.chg (chg_of_below (fun _ => False) ((Below.refl _ w).drew.trans hb1)) (fun h => h)
  have hM1 := HM0.out.below ((Below.refl _ w).drew.trans hb1)
  clear y0 y1 y2 y3 y4 y5 y6 y7 y8 y9 hb1
  have H1 := Lib.hid (And.intro hB1 (And.intro hM1 hc1))
  obtain ⟨y0, y1, y2, y3, y4, y5, y6, y7, y8, y9⟩ := g_cells hB1
  have z6 := hB1.free 6
  have z8 := hB1.free 8
  clear hB1 hM1 hc1
  have HL := Lib.hid (store_calls b bw bb ws (A + 1 + k) v w1 H1.out.2.1 (by have := HLT.out; have := HK.out; omega) HV.out)
  go_wp2_with fail
  refine HL.out.mono ?_; rintro e w2 ⟨rfl, hm2, hc2⟩
  have hB2 := H1.out.1.chg hc2 (fun h => h.elim HN.out.1 HN.out.2.1)
  have H2 := Lib.hid (And.intro hB2 (And.intro hm2 (H1.out.2.2.trans hc2 (fun _ _ h => h.elim .inl (fun h => .inr (.inl h))))))
  clear y0 y1 y2 y3 y4 y5 y6 y7 y8 y9 z6 z8
  obtain ⟨y0, y1, y2, y3, y4, y5, y6, y7, y8, y9⟩ := g_cells hB2
  have z6 := hB2.free 6
  have z8 := hB2.free 8
  clear hB2 hm2 hc2 HL
  have hB3 : Blk (w2.setCell ⟨bo, 6, none⟩ (.int .i64 3)) bo 88 (gCells A M C 0 k 3 wd v code) := H2.out.1.set 6 (.int .i64 3)
  have hM3 := H2.out.2.1.other ⟨bo, 6, none⟩ (.int .i64 3) (fun e => HN.out.1 e.symm) (fun e => HN.out.2.1 e.symm) (fun e => HN.out.2.2 e.symm)
  have hc3 := H2.out.2.2.setCell ⟨bo, 6, none⟩ (.int .i64 3) (fun _ => .inr (.inr rfl))
  have H3 := Lib.hid (And.intro hB3 (And.intro hM3 hc3))
  clear hB3 hM3 hc3
  go_wp2
  go_end0
  exact ⟨rfl, H3.out⟩

set_option maxHeartbeats 4000000 in
set_option maxRecDepth 100000 in
theorem join5 (b bw bb bo A M C k wd v code : Nat) (ws : List Nat) (w : World) (hb : Blk w bo 88 (gCells A M C 0 k 5 wd v code)) (hm : MemAt w b bw bb ws) (hg : GOk A M C) (hk : k < M) (hl : A + 1 + M ≤ ws.length ∧ C < ws.length) (hn : bo ≠ b ∧ bo ≠ bw ∧ bo ≠ bb) (hv : v < 18446744073709551616) :
    Calls Try.prog 38 #[.pointer (some ⟨bo, 0, none⟩), .pointer (some ⟨b, 0, none⟩)] w fun e w' => e = .returned (.tuple #[]) ∧ Blk w' bo 88 (gCells A M C 0 k 6 wd v 0) ∧ MemAt w' b bw bb (ws.set (A + 1 + k) v) ∧ Chg (fun j => j = b ∨ j = bw ∨ j = bo) w w' := by
  have HV := Lib.hid hv
  clear hv
  obtain ⟨y0, y1, y2, y3, y4, y5, y6, y7, y8, y9⟩ := g_cells hb
  have HB0 := Lib.hid hb
  have HM0 := Lib.hid hm
  have HWD := fun w => Lib.hid (gword_calls A M C k w hg hk)
  have HG := Lib.hid hg
  have HK := Lib.hid hk
  have hml := hm.most
  have HLT := Lib.hid hl
  have HN := Lib.hid hn
  clear hb hm hg hn hl
  go_enter Try.func38, Try.ntmps38
  go_upto_region 0 with fail
  go_still_tail 8, (by kernel_rfl)
  change wpList _ _ _ _ _ w.drew
  go_wp2_with fail
  refine (HWD _).out.mono ?_; rintro e w1 ⟨rfl, hb1⟩
  have hc1 := chg_of_below (fun j => j = b ∨ j = bw ∨ j = bo) ((Below.refl _ w).drew.trans hb1)
  have hB1 := HB0.out.chg (chg_of_below (fun _ => False) ((Below.refl _ w).drew.trans hb1)) (fun h => h)
  have hM1 := HM0.out.below ((Below.refl _ w).drew.trans hb1)
  clear y0 y1 y2 y3 y4 y5 y6 y7 y8 y9 hb1
  have H1 := Lib.hid (And.intro hB1 (And.intro hM1 hc1))
  obtain ⟨y0, y1, y2, y3, y4, y5, y6, y7, y8, y9⟩ := g_cells hB1
  have z6 := hB1.free 6
  have z8 := hB1.free 8
  clear hB1 hM1 hc1
  have HL := Lib.hid (store_calls b bw bb ws (A + 1 + k) v w1 H1.out.2.1 (by have := HLT.out; have := HK.out; omega) HV.out)
  go_wp2_with fail
  refine HL.out.mono ?_; rintro e w2 ⟨rfl, hm2, hc2⟩
  have hB2 := H1.out.1.chg hc2 (fun h => h.elim HN.out.1 HN.out.2.1)
  have H2 := Lib.hid (And.intro hB2 (And.intro hm2 (H1.out.2.2.trans hc2 (fun _ _ h => h.elim .inl (fun h => .inr (.inl h))))))
  clear y0 y1 y2 y3 y4 y5 y6 y7 y8 y9 z6 z8
  obtain ⟨y0, y1, y2, y3, y4, y5, y6, y7, y8, y9⟩ := g_cells hB2
  have z6 := hB2.free 6
  have z8 := hB2.free 8
  clear hB2 hm2 hc2 HL
  have HE := Lib.hid (gend_calls bo A M C 0 k 5 wd v code 0 v (w2) H2.out.1)
  go_wp2_with fail
  refine HE.out.mono ?_; rintro e w4 ⟨rfl, hB4, hc4⟩
  have HF := Lib.hid (And.intro hB4 (And.intro (H2.out.2.1.chg hc4 (fun e => HN.out.1 e.symm) (fun e => HN.out.2.1 e.symm) (fun e => HN.out.2.2 e.symm)) (H2.out.2.2.trans hc4 (fun _ _ h => .inr (.inr h)))))
  clear hB4 hc4
  go_wp2
  exact bodyPost_ret (v := .tuple #[]) (by simp [results, Try.results38, go_sem]) rfl ⟨rfl, HF.out⟩

set_option maxHeartbeats 4000000 in
set_option maxRecDepth 100000 in
theorem join3a (b bw bb bo A M C k wd v code : Nat) (ws : List Nat) (w : World) (hb : Blk w bo 88 (gCells A M C 0 k 3 wd v code)) (hm : MemAt w b bw bb ws) (hg : GOk A M C) (hk : k < M) (hl : A + 1 + M ≤ ws.length ∧ C < ws.length) (hn : bo ≠ b ∧ bo ≠ bw ∧ bo ≠ bb) (ht : (ws.getD A 0).testBit k = true) :
    Calls Try.prog 38 #[.pointer (some ⟨bo, 0, none⟩), .pointer (some ⟨b, 0, none⟩)] w fun e w' => e = .returned (.tuple #[]) ∧ Blk w' bo 88 (gCells A M C 0 k 6 wd 0 14) ∧ MemAt w' b bw bb (ws.set A (ws.getD A 0 ||| 2 ^ k)) ∧ Chg (fun j => j = b ∨ j = bw ∨ j = bo) w w' := by
  have HTB := Lib.hid ht
  clear ht
  obtain ⟨y0, y1, y2, y3, y4, y5, y6, y7, y8, y9⟩ := g_cells hb
  have HB0 := Lib.hid hb
  have HM0 := Lib.hid hm
  have HWD := fun w => Lib.hid (gword_calls A M C k w hg hk)
  have HG := Lib.hid hg
  have HK := Lib.hid hk
  have hml := hm.most
  have HLT := Lib.hid hl
  have HN := Lib.hid hn
  clear hb hm hg hn hl
  go_enter Try.func38, Try.ntmps38
  go_upto_region 0 with fail
  go_still_tail 8, (by kernel_rfl)
  change wpList _ _ _ _ _ w.drew
  go_wp2_with fail
  refine (HWD _).out.mono ?_; rintro e w1 ⟨rfl, hb1⟩
  have hc1 := chg_of_below (fun j => j = b ∨ j = bw ∨ j = bo) ((Below.refl _ w).drew.trans hb1)
  have hB1 := HB0.out.chg (chg_of_below (fun _ => False) ((Below.refl _ w).drew.trans hb1)) (fun h => h)
  have hM1 := HM0.out.below ((Below.refl _ w).drew.trans hb1)
  clear y0 y1 y2 y3 y4 y5 y6 y7 y8 y9 hb1
  have H1 := Lib.hid (And.intro hB1 (And.intro hM1 hc1))
  obtain ⟨y0, y1, y2, y3, y4, y5, y6, y7, y8, y9⟩ := g_cells hB1
  have z6 := hB1.free 6
  have z8 := hB1.free 8
  clear hB1 hM1 hc1
  have HP2 : Hid (2 ^ k < 18446744073709551616) := Lib.hid (Nat.pow_lt_pow_right (by decide) (show k < 64 by have := HK.out; have := HG.out.m8; omega))
  go_upto_region 6 with fail
  refine wp_region_held_drew (S := (fun w' => w'.cell? ⟨bo, 1, none⟩ = some (.int .i64 A))) (by kernel_rfl) (y1) (fun hH0 => ?_)
  refine take_first 0 (some 32) ?_ rfl rfl (by kernel_rfl) (by kernel_rfl) (by kernel_rfl) (fun _ _ _ h => h) rfl ?hy hH0 ?_
  case hy => (intro w0 hS0; (try dsimp only at hS0); (try go_simp); try with_reducible rfl)
  try simp only [Act.put, List.setIfInBounds_toArray, List.set_cons_zero, List.set_cons_succ]
  refine take_first 1 (some 33) ?_ rfl rfl (by kernel_rfl) (by kernel_rfl) (by kernel_rfl) (fun _ _ _ h => h) rfl ?hy hH0 ?_
  case hy => (intro w0 hS0; (try dsimp only at hS0); (try go_simp); try with_reducible rfl)
  try simp only [Act.put, List.setIfInBounds_toArray, List.set_cons_zero, List.set_cons_succ]
  refine take_first 2 (some 34) ?_ rfl rfl (by kernel_rfl) (by kernel_rfl) (by kernel_rfl) (fun _ _ _ h => h) rfl ?hy hH0 ?_
  case hy => (intro w0 hS0; (try dsimp only at hS0); (try go_simp); try with_reducible rfl)
  try simp only [Act.put, List.setIfInBounds_toArray, List.set_cons_zero, List.set_cons_succ]
  refine take_first 3 (some 35) ?_ rfl rfl (by kernel_rfl) (by kernel_rfl) (by kernel_rfl) (fun _ _ _ h => h) rfl ?hy hH0 ?_
  case hy => (intro w0 hS0; (try dsimp only at hS0); (try go_simp); try with_reducible rfl)
  try simp only [Act.put, List.setIfInBounds_toArray, List.set_cons_zero, List.set_cons_succ]
  refine take_first 4 (some 36) ?_ rfl rfl (by kernel_rfl) (by kernel_rfl) (by kernel_rfl) (fun _ _ _ h => h) rfl ?hy hH0 ?_
  case hy => (intro w0 hS0; (try dsimp only at hS0); (try go_simp); try with_reducible rfl)
  try simp only [Act.put, List.setIfInBounds_toArray, List.set_cons_zero, List.set_cons_succ]
  refine take_first 5 (some 37) ?_ rfl rfl (by kernel_rfl) (by kernel_rfl) (by kernel_rfl) (fun _ _ _ h => h) rfl ?hy hH0 ?_
  case hy => (intro w0 hS0; (try dsimp only at hS0); (try go_simp); try with_reducible rfl)
  try simp only [Act.put, List.setIfInBounds_toArray, List.set_cons_zero, List.set_cons_succ]
  refine take_first 6 (some 38) ?_ rfl rfl (by kernel_rfl) (by kernel_rfl) (by kernel_rfl) (fun _ _ _ h => h) rfl ?hy hH0 ?_
  case hy => (intro w0 hS0; (try dsimp only at hS0); (try go_simp); try with_reducible rfl)
  try simp only [Act.put, List.setIfInBounds_toArray, List.set_cons_zero, List.set_cons_succ]
  refine take_first 7 (some 39) ?_ rfl rfl (by kernel_rfl) (by kernel_rfl) (by kernel_rfl) (fun _ _ _ h => h) rfl ?hy hH0 ?_
  case hy => (intro w0 hS0; (try dsimp only at hS0); (try go_simp); try with_reducible rfl)
  try simp only [Act.put, List.setIfInBounds_toArray, List.set_cons_zero, List.set_cons_succ]
  refine wpAnyH_ready (rs := [8]) (by kernel_rfl) (by simp) (AllReadyH.cons rfl (fun K hK => ?_) AllReadyH.nil)
  go_simp
  refine (gbit_calls bo A M C 0 k 3 wd v code w1.drew H1.out.1.drew (by have := HK.out; have := HG.out.m8; omega)).mono ?_; rintro e w' ⟨rfl, rfl⟩
  refine hK.out _ _ (y1) (fun hH1 => ?_)
  clear hK
  try simp only [Act.put, List.setIfInBounds_toArray, List.set_cons_zero, List.set_cons_succ]
  refine wpAnyH_ready (rs := [9]) (by kernel_rfl) (by simp) (AllReadyH.cons rfl (fun K hK => ?_) AllReadyH.nil)
  go_simp
  refine (or_calls b bw bb ws A (2 ^ k) w1.drew H1.out.2.1.drew (by have := HLT.out; omega) HP2.out).mono ?_; rintro e w2 ⟨rfl, hm2, hc2⟩
  have hB2 := H1.out.1.drew.chg hc2 (fun h => h.elim HN.out.1 HN.out.2.1)
  have H2 := Lib.hid (And.intro hB2 (And.intro hm2 (H1.out.2.2.drew.trans hc2 (fun _ _ h => h.elim .inl (fun h => .inr (.inl h))))))
  have hA2 := (g_cells hB2).2.1
  clear hB2 hm2 hc2
  refine hK.out _ _ (hA2) (fun hH2 => ?_)
  clear hK
  clear hH1
  try simp only [Act.put, List.setIfInBounds_toArray, List.set_cons_zero, List.set_cons_succ]
  refine wpAnyH_ready (rs := [10]) (by kernel_rfl) (by simp) (AllReadyH.cons rfl (fun K hK => ?_) AllReadyH.nil)
  go_simp
  have HI := Lib.hid (gin_calls bo A M C 0 k 3 wd v code (ws.getD A 0) w2 H2.out.1 (by have := HK.out; have := HG.out.m8; omega) (HM0.out.getD_lt A))
  rw [HTB.out] at HI
  refine HI.out.mono ?_; rintro e w' ⟨rfl, rfl⟩
  refine hK.out _ _ (hA2) (fun hH3 => ?_)
  clear hK
  clear hH2
  try simp only [Act.put, List.setIfInBounds_toArray, List.set_cons_zero, List.set_cons_succ]
  refine take_first 11 (some 5) ?_ rfl rfl (by kernel_rfl) (by kernel_rfl) (by kernel_rfl) (fun _ _ _ h => h) rfl ?hy hH3 ?_
  case hy => (intro w0 hS0; (try dsimp only at hS0); (try go_simp); try with_reducible rfl)
  try simp only [Act.put, List.setIfInBounds_toArray, List.set_cons_zero, List.set_cons_succ]
  refine wpAnyH_done (by kernel_rfl) ?_ _
  clear y0 y1 y2 y3 y4 y5 y6 y7 y8 y9 z6 z8 hA2 hH0 hH3
  obtain ⟨y0, y1, y2, y3, y4, y5, y6, y7, y8, y9⟩ := g_cells H2.out.1
  have z6 := H2.out.1.free 6
  have z8 := H2.out.1.free 8
  have hB3 : Blk (w2.setCell ⟨bo, 6, none⟩ (.int .i64 4)) bo 88 (gCells A M C 0 k 4 wd v code) := H2.out.1.set 6 (.int .i64 4)
  have hM3 := H2.out.2.1.other ⟨bo, 6, none⟩ (.int .i64 4) (fun e => HN.out.1 e.symm) (fun e => HN.out.2.1 e.symm) (fun e => HN.out.2.2 e.symm)
  have hc3 := H2.out.2.2.setCell ⟨bo, 6, none⟩ (.int .i64 4) (fun _ => .inr (.inr rfl))
  have H3 := Lib.hid (And.intro hB3 (And.intro hM3 hc3))
  clear hB3 hM3 hc3
  have HE := Lib.hid (gend_calls bo A M C 0 k 4 wd v code 14 0 (w2.setCell ⟨bo, 6, none⟩ (.int .i64 4)) H3.out.1)
  go_wp2_with fail
  refine HE.out.mono ?_; rintro e w4 ⟨rfl, hB4, hc4⟩
  have HF := Lib.hid (And.intro hB4 (And.intro (H3.out.2.1.chg hc4 (fun e => HN.out.1 e.symm) (fun e => HN.out.2.1 e.symm) (fun e => HN.out.2.2 e.symm)) (H3.out.2.2.trans hc4 (fun _ _ h => .inr (.inr h)))))
  clear hB4 hc4
  go_wp2
  go_end0
  exact ⟨rfl, HF.out⟩

set_option maxHeartbeats 4000000 in
set_option maxRecDepth 100000 in
theorem join3b (b bw bb bo A M C k wd v code : Nat) (ws : List Nat) (w : World) (hb : Blk w bo 88 (gCells A M C 0 k 3 wd v code)) (hm : MemAt w b bw bb ws) (hg : GOk A M C) (hk : k < M) (hl : A + 1 + M ≤ ws.length ∧ C < ws.length) (hn : bo ≠ b ∧ bo ≠ bw ∧ bo ≠ bb) (ht : (ws.getD A 0).testBit k = false) :
    Calls Try.prog 38 #[.pointer (some ⟨bo, 0, none⟩), .pointer (some ⟨b, 0, none⟩)] w fun e w' => e = .returned (.tuple #[]) ∧ Blk w' bo 88 (gCells A M C 0 k 4 wd v code) ∧ MemAt w' b bw bb (ws.set A (ws.getD A 0 ||| 2 ^ k)) ∧ Chg (fun j => j = b ∨ j = bw ∨ j = bo) w w' := by
  have HTB := Lib.hid ht
  clear ht
  obtain ⟨y0, y1, y2, y3, y4, y5, y6, y7, y8, y9⟩ := g_cells hb
  have HB0 := Lib.hid hb
  have HM0 := Lib.hid hm
  have HWD := fun w => Lib.hid (gword_calls A M C k w hg hk)
  have HG := Lib.hid hg
  have HK := Lib.hid hk
  have hml := hm.most
  have HLT := Lib.hid hl
  have HN := Lib.hid hn
  clear hb hm hg hn hl
  go_enter Try.func38, Try.ntmps38
  go_upto_region 0 with fail
  go_still_tail 8, (by kernel_rfl)
  change wpList _ _ _ _ _ w.drew
  go_wp2_with fail
  refine (HWD _).out.mono ?_; rintro e w1 ⟨rfl, hb1⟩
  have hc1 := chg_of_below (fun j => j = b ∨ j = bw ∨ j = bo) ((Below.refl _ w).drew.trans hb1)
  have hB1 := HB0.out.chg (chg_of_below (fun _ => False) ((Below.refl _ w).drew.trans hb1)) (fun h => h)
  have hM1 := HM0.out.below ((Below.refl _ w).drew.trans hb1)
  clear y0 y1 y2 y3 y4 y5 y6 y7 y8 y9 hb1
  have H1 := Lib.hid (And.intro hB1 (And.intro hM1 hc1))
  obtain ⟨y0, y1, y2, y3, y4, y5, y6, y7, y8, y9⟩ := g_cells hB1
  have z6 := hB1.free 6
  have z8 := hB1.free 8
  clear hB1 hM1 hc1
  have HP2 : Hid (2 ^ k < 18446744073709551616) := Lib.hid (Nat.pow_lt_pow_right (by decide) (show k < 64 by have := HK.out; have := HG.out.m8; omega))
  go_upto_region 6 with fail
  refine wp_region_held_drew (S := (fun w' => w'.cell? ⟨bo, 1, none⟩ = some (.int .i64 A))) (by kernel_rfl) (y1) (fun hH0 => ?_)
  refine take_first 0 (some 32) ?_ rfl rfl (by kernel_rfl) (by kernel_rfl) (by kernel_rfl) (fun _ _ _ h => h) rfl ?hy hH0 ?_
  case hy => (intro w0 hS0; (try dsimp only at hS0); (try go_simp); try with_reducible rfl)
  try simp only [Act.put, List.setIfInBounds_toArray, List.set_cons_zero, List.set_cons_succ]
  refine take_first 1 (some 33) ?_ rfl rfl (by kernel_rfl) (by kernel_rfl) (by kernel_rfl) (fun _ _ _ h => h) rfl ?hy hH0 ?_
  case hy => (intro w0 hS0; (try dsimp only at hS0); (try go_simp); try with_reducible rfl)
  try simp only [Act.put, List.setIfInBounds_toArray, List.set_cons_zero, List.set_cons_succ]
  refine take_first 2 (some 34) ?_ rfl rfl (by kernel_rfl) (by kernel_rfl) (by kernel_rfl) (fun _ _ _ h => h) rfl ?hy hH0 ?_
  case hy => (intro w0 hS0; (try dsimp only at hS0); (try go_simp); try with_reducible rfl)
  try simp only [Act.put, List.setIfInBounds_toArray, List.set_cons_zero, List.set_cons_succ]
  refine take_first 3 (some 35) ?_ rfl rfl (by kernel_rfl) (by kernel_rfl) (by kernel_rfl) (fun _ _ _ h => h) rfl ?hy hH0 ?_
  case hy => (intro w0 hS0; (try dsimp only at hS0); (try go_simp); try with_reducible rfl)
  try simp only [Act.put, List.setIfInBounds_toArray, List.set_cons_zero, List.set_cons_succ]
  refine take_first 4 (some 36) ?_ rfl rfl (by kernel_rfl) (by kernel_rfl) (by kernel_rfl) (fun _ _ _ h => h) rfl ?hy hH0 ?_
  case hy => (intro w0 hS0; (try dsimp only at hS0); (try go_simp); try with_reducible rfl)
  try simp only [Act.put, List.setIfInBounds_toArray, List.set_cons_zero, List.set_cons_succ]
  refine take_first 5 (some 37) ?_ rfl rfl (by kernel_rfl) (by kernel_rfl) (by kernel_rfl) (fun _ _ _ h => h) rfl ?hy hH0 ?_
  case hy => (intro w0 hS0; (try dsimp only at hS0); (try go_simp); try with_reducible rfl)
  try simp only [Act.put, List.setIfInBounds_toArray, List.set_cons_zero, List.set_cons_succ]
  refine take_first 6 (some 38) ?_ rfl rfl (by kernel_rfl) (by kernel_rfl) (by kernel_rfl) (fun _ _ _ h => h) rfl ?hy hH0 ?_
  case hy => (intro w0 hS0; (try dsimp only at hS0); (try go_simp); try with_reducible rfl)
  try simp only [Act.put, List.setIfInBounds_toArray, List.set_cons_zero, List.set_cons_succ]
  refine take_first 7 (some 39) ?_ rfl rfl (by kernel_rfl) (by kernel_rfl) (by kernel_rfl) (fun _ _ _ h => h) rfl ?hy hH0 ?_
  case hy => (intro w0 hS0; (try dsimp only at hS0); (try go_simp); try with_reducible rfl)
  try simp only [Act.put, List.setIfInBounds_toArray, List.set_cons_zero, List.set_cons_succ]
  refine wpAnyH_ready (rs := [8]) (by kernel_rfl) (by simp) (AllReadyH.cons rfl (fun K hK => ?_) AllReadyH.nil)
  go_simp
  refine (gbit_calls bo A M C 0 k 3 wd v code w1.drew H1.out.1.drew (by have := HK.out; have := HG.out.m8; omega)).mono ?_; rintro e w' ⟨rfl, rfl⟩
  refine hK.out _ _ (y1) (fun hH1 => ?_)
  clear hK
  try simp only [Act.put, List.setIfInBounds_toArray, List.set_cons_zero, List.set_cons_succ]
  refine wpAnyH_ready (rs := [9]) (by kernel_rfl) (by simp) (AllReadyH.cons rfl (fun K hK => ?_) AllReadyH.nil)
  go_simp
  refine (or_calls b bw bb ws A (2 ^ k) w1.drew H1.out.2.1.drew (by have := HLT.out; omega) HP2.out).mono ?_; rintro e w2 ⟨rfl, hm2, hc2⟩
  have hB2 := H1.out.1.drew.chg hc2 (fun h => h.elim HN.out.1 HN.out.2.1)
  have H2 := Lib.hid (And.intro hB2 (And.intro hm2 (H1.out.2.2.drew.trans hc2 (fun _ _ h => h.elim .inl (fun h => .inr (.inl h))))))
  have hA2 := (g_cells hB2).2.1
  clear hB2 hm2 hc2
  refine hK.out _ _ (hA2) (fun hH2 => ?_)
  clear hK
  clear hH1
  try simp only [Act.put, List.setIfInBounds_toArray, List.set_cons_zero, List.set_cons_succ]
  refine wpAnyH_ready (rs := [10]) (by kernel_rfl) (by simp) (AllReadyH.cons rfl (fun K hK => ?_) AllReadyH.nil)
  go_simp
  have HI := Lib.hid (gin_calls bo A M C 0 k 3 wd v code (ws.getD A 0) w2 H2.out.1 (by have := HK.out; have := HG.out.m8; omega) (HM0.out.getD_lt A))
  rw [HTB.out] at HI
  refine HI.out.mono ?_; rintro e w' ⟨rfl, rfl⟩
  refine hK.out _ _ (hA2) (fun hH3 => ?_)
  clear hK
  clear hH2
  try simp only [Act.put, List.setIfInBounds_toArray, List.set_cons_zero, List.set_cons_succ]
  refine take_first 11 (some 5) ?_ rfl rfl (by kernel_rfl) (by kernel_rfl) (by kernel_rfl) (fun _ _ _ h => h) rfl ?hy hH3 ?_
  case hy => (intro w0 hS0; (try dsimp only at hS0); (try go_simp); try with_reducible rfl)
  try simp only [Act.put, List.setIfInBounds_toArray, List.set_cons_zero, List.set_cons_succ]
  refine wpAnyH_done (by kernel_rfl) ?_ _
  clear y0 y1 y2 y3 y4 y5 y6 y7 y8 y9 z6 z8 hA2 hH0 hH3
  obtain ⟨y0, y1, y2, y3, y4, y5, y6, y7, y8, y9⟩ := g_cells H2.out.1
  have z6 := H2.out.1.free 6
  have z8 := H2.out.1.free 8
  have hB3 : Blk (w2.setCell ⟨bo, 6, none⟩ (.int .i64 4)) bo 88 (gCells A M C 0 k 4 wd v code) := H2.out.1.set 6 (.int .i64 4)
  have hM3 := H2.out.2.1.other ⟨bo, 6, none⟩ (.int .i64 4) (fun e => HN.out.1 e.symm) (fun e => HN.out.2.1 e.symm) (fun e => HN.out.2.2 e.symm)
  have hc3 := H2.out.2.2.setCell ⟨bo, 6, none⟩ (.int .i64 4) (fun _ => .inr (.inr rfl))
  have H3 := Lib.hid (And.intro hB3 (And.intro hM3 hc3))
  clear hB3 hM3 hc3
  go_wp2
  go_end0
  exact ⟨rfl, H3.out⟩

end Go.Proofs.Ytjmooohhndjmiaa
