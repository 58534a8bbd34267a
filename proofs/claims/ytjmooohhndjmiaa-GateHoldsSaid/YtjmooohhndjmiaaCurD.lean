/- contracts of package cursor: the steps. -/
import Derived.Test.YtjmooohhndjmiaaCurC
namespace Go.Proofs.Ytjmooohhndjmiaa
open Go.RowKit Go.Deep
set_option maxRecDepth 100000

def heldN (s m p g : Nat) : Bool := !decide (p < g) && (decide (s < p - g) || decide (s - (p - g) < m))
theorem held_calls (bo : Nat) (a s m bwd n pc k p g code : Nat) (w : World) (hb : Blk w bo 104 (opCells a s m bwd n pc k p g code)) (hs : s ≤ 1024) (hm : m ≤ 1024) (hp : p < 18446744073709551616) (hg : g < 18446744073709551616) :
    Calls Try.prog 67 #[.pointer (some ⟨bo, 0, none⟩)] w fun e w' => e = .returned (.bool (heldN s m p g)) ∧ Below w.heap.size w w' := by
  obtain ⟨_, _, h2, h3, _, _, _, h7, h8, _⟩ := op_cells hb
  clear hb
  unfold heldN
  have ws : IntKind.u64.wrap (s : Int) = (s : Int) := wrap_small s (by omega)
  have wm : IntKind.u64.wrap (m : Int) = (m : Int) := wrap_small m (by omega)
  by_cases c1 : p < g
  · have t1 : decide (p < g) = true := by simp [c1]
    have t2 : decide ((p : Int) < (g : Int)) = true := by simp; omega
    rw [t1, Bool.not_true, Bool.false_and]
    clear c1 hs hm
    go_enter Try.func67, Try.ntmps67
    go_wp2_with fail
    go_region
    go_wp2
    go_ret
    exact ⟨rfl, (Below.refl _ _).drew⟩
  · obtain ⟨d, hd⟩ : ∃ d, p - g = d := ⟨_, rfl⟩
    have t1 : decide (p < g) = false := by simp; omega
    have wd : IntKind.u64.wrap ((p : Int) - (g : Int)) = (d : Int) := by
      rw [show (p : Int) - (g : Int) = (d : Int) by omega]; exact wrap_small d (by omega)
    rw [t1, Bool.not_false, Bool.true_and, hd]
    clear hd
    by_cases c2 : s < d
    · have t3 : decide (s < d) = true := by simp [c2]
      rw [t3, Bool.true_or]
      clear c1 c2 hs hm
      go_enter Try.func67, Try.ntmps67
      go_wp2_with fail
      go_region
      go_wp2_with fail
      go_region
      go_wp2_with fail
      go_region
      go_wp2
      go_ret
      exact ⟨rfl, (Below.refl _ _).drew.drew.drew⟩
    · have t3 : decide (s < d) = false := by simp; omega
      have ws2 : IntKind.u64.wrap ((s : Int) - (d : Int)) = ((s - d : Nat) : Int) := by
        rw [show (s : Int) - (d : Int) = ((s - d : Nat) : Int) by omega]; exact wrap_small _ (by omega)
      rw [t3, Bool.false_or]
      clear c1 c2 hs hm
      generalize s - d = u at *
      go_enter Try.func67, Try.ntmps67
      go_wp2_with fail
      go_region
      go_wp2_with fail
      go_region
      go_wp2_with fail
      go_region
      go_wp2
      go_ret
      exact ⟨by rfl, (Below.refl _ _).drew.drew.drew⟩


/-- look: the next position. -/
theorem look_calls (bo : Nat) (a s m bwd n pc k p g code : Nat) (b bw bb : Nat) (ws : List Nat) (w : World) (hb : Blk w bo 104 (opCells a s m bwd n pc k p g code)) (hm : MemAt w b bw bb ws) (ha : a < ws.length) (n1 : bo ≠ b) (n2 : bo ≠ bw) (n3 : bo ≠ bb) :
    Calls Try.prog 62 #[.pointer (some ⟨bo, 0, none⟩), .pointer (some ⟨b, 0, none⟩)] w fun e w' => e = .returned (.tuple #[]) ∧
      Blk w' bo 104 (opCells a s m bwd n (if m = 0 then 3 else if n = 0 then 2 else 1) 0 (ws.getD a 0) g (if m = 0 then 0 else code)) ∧ MemAt w' b bw bb ws ∧ Chg (fun j => j = b ∨ j = bo) w w' := by
  obtain ⟨_, h1, h2, h3, h4, h5, h6, h7, h8, _⟩ := op_cells hb
  have hl := load_calls b bw bb ws a w hm ha
  have HB := Lib.hid hb
  have HL := Lib.hid hl
  clear hb hm hl ha
  generalize ws.getD a 0 = x at *
  have key : ∀ w1, (MemAt w1 b bw bb ws ∧ Chg (fun j => j = b) w w1) → ∃ w2, w2 = (w1.setCell ⟨bo, 7, none⟩ (.int .u64 x)).setCell ⟨bo, 6, none⟩ (.int .i64 0) ∧ w1.cell? ⟨bo, 7, none⟩ = some (.int .u64 p) ∧ w1.frozen? ⟨bo, 7, none⟩ = false ∧ w1.cell? ⟨bo, 6, none⟩ = some (.int .i64 k) ∧ w1.frozen? ⟨bo, 6, none⟩ = false ∧ Blk w2 bo 104 (opCells a s m bwd n pc 0 x g code) ∧ MemAt w2 b bw bb ws ∧ Chg (fun j => j = b ∨ j = bo) w w2 := by
    intro w1 ⟨hm1, hc1⟩
    have hb1 := HB.out.chg hc1 n1
    refine ⟨_, rfl, hb1.cell 7, hb1.free 7, hb1.cell 6, hb1.free 6, (hb1.set 7 (.int .u64 x)).set 6 (.int .i64 0), (hm1.other _ _ n1.symm n2.symm n3.symm).other _ _ n1.symm n2.symm n3.symm, ?_⟩
    exact ((hc1.mono (fun _ _ h => .inl h)).setCell ⟨bo, 7, none⟩ _ (fun _ => .inr rfl)).setCell ⟨bo, 6, none⟩ _ (fun _ => .inr rfl)
  have KEY := Lib.hid key
  clear key
  by_cases c1 : m = 0
  · subst c1
    rw [if_pos rfl, if_pos rfl]
    rw [show ((0 : Nat) : Int) = 0 from rfl] at h3
    go_enter Try.func62, Try.ntmps62
    go_wp2_with fail
    refine HL.out.mono ?_; rintro e w1 ⟨rfl, hh⟩
    obtain ⟨w2, hw2, c7, z7, c6, z6, hb2, hm2, hc2⟩ := KEY.out w1 hh
    have hw : w2 = (w1.setCell ⟨bo, 7, none⟩ (.int .u64 x)).setCell ⟨bo, 6, none⟩ (.int .i64 0) := hw2
    have HW := Lib.hid hw
    clear hw2 hw hh
    obtain ⟨_, y1, y2, y3, y4, y5, y6, y7, y8, _⟩ := op_cells hb2
    rw [show ((0 : Nat) : Int) = 0 from rfl] at y3
    rw [HW.out] at y3 y7
    have HE2 := Lib.hid (And.intro hb2 (And.intro hm2 hc2))
    clear hb2 hm2 hc2 y1 y2 y4 y5 y6 y8
    go_wp2_with fail
    rw [← HW.out]
    refine (end_calls bo a s 0 bwd n pc 0 x g code 0 x w2 HE2.out.1).mono ?_; rintro e w4 ⟨rfl, hh1, hh2⟩
    have HE := Lib.hid (And.intro hh1 hh2); clear hh1 hh2
    go_wp2
    go_end0
    exact ⟨rfl, HE.out.1, HE2.out.2.1.chg HE.out.2 n1.symm n2.symm n3.symm, HE2.out.2.2.trans HE.out.2 (fun _ _ h => .inr h)⟩
  · rw [if_neg c1, if_neg c1]
    have t1 : ((m : Int) == 0) = false := by rw [beq_eq_false_iff_ne]; omega
    clear c1
    by_cases c2 : n = 0
    · subst c2
      rw [if_pos rfl]
      go_enter Try.func62, Try.ntmps62
      go_wp2_with fail
      refine HL.out.mono ?_; rintro e w1 ⟨rfl, hh⟩
      obtain ⟨w2, hw2, c7, z7, c6, z6, hb2, hm2, hc2⟩ := KEY.out w1 hh
      have hw : w2 = (w1.setCell ⟨bo, 7, none⟩ (.int .u64 x)).setCell ⟨bo, 6, none⟩ (.int .i64 0) := hw2
      have HW := Lib.hid hw
      clear hw2 hw hh
      obtain ⟨_, y1, y2, y3, y4, y5, y6, y7, y8, _⟩ := op_cells hb2
      have zz5 := hb2.free 5
      rw [HW.out] at y3 y4 y5 zz5
      have HE2 := Lib.hid (And.intro hb2 (And.intro hm2 hc2))
      clear hb2 hm2 hc2 y1 y2 y6 y7 y8
      go_wp2
      rw [← HW.out]
      go_end0
      exact ⟨rfl, HE2.out.1.set 5 (.int .i64 2), HE2.out.2.1.other _ _ n1.symm n2.symm n3.symm, HE2.out.2.2.setCell ⟨bo, 5, none⟩ _ (fun _ => .inr rfl)⟩
    · rw [if_neg c2]
      have t2 : decide (0 < n) = true := by simp; omega
      clear c2
      go_enter Try.func62, Try.ntmps62
      go_wp2_with fail
      refine HL.out.mono ?_; rintro e w1 ⟨rfl, hh⟩
      obtain ⟨w2, hw2, c7, z7, c6, z6, hb2, hm2, hc2⟩ := KEY.out w1 hh
      have hw : w2 = (w1.setCell ⟨bo, 7, none⟩ (.int .u64 x)).setCell ⟨bo, 6, none⟩ (.int .i64 0) := hw2
      have HW := Lib.hid hw
      clear hw2 hw hh
      obtain ⟨_, y1, y2, y3, y4, y5, y6, y7, y8, _⟩ := op_cells hb2
      have zz5 := hb2.free 5
      rw [HW.out] at y3 y4 y5 zz5
      have HE2 := Lib.hid (And.intro hb2 (And.intro hm2 hc2))
      clear hb2 hm2 hc2 y1 y2 y6 y7 y8
      go_wp2
      rw [← HW.out]
      go_end0
      exact ⟨rfl, HE2.out.1.set 5 (.int .i64 1), HE2.out.2.1.other _ _ n1.symm n2.symm n3.symm, HE2.out.2.2.setCell ⟨bo, 5, none⟩ _ (fun _ => .inr rfl)⟩

theorem keepA {b bw bb bo bwd : Nat} {ws : List Nat} {a s m n pc k p g code : Nat} {l : List Int} {w0 W W' : World} {K : Nat} {c : Int} (n1 : bo ≠ b) (n2 : bwd ≠ b) (hh : Hid (MemAt W b bw bb ws ∧ Chg (fun j => j = b) w0 W ∧ Blk W bo 104 (opCells a s m bwd n pc k p g code) ∧ Blk W bwd 3 (intVals l)))
    (hk : (intVals l)[K]? = some (.int .i64 c)) (hm : MemAt W' b bw bb ws) (hc : Chg (fun j => j = b) W W') :
    (W'.cell? ⟨bo, 4, none⟩ = some (.slice (some ⟨bwd, 0, none⟩) n n) ∧ W'.cell? ⟨bo, 6, none⟩ = some (.int .i64 k) ∧ W'.cell? ⟨bwd, K, none⟩ = some (.int .i64 c)) ∧ Hid (MemAt W' b bw bb ws ∧ Chg (fun j => j = b) w0 W' ∧ Blk W' bo 104 (opCells a s m bwd n pc k p g code) ∧ Blk W' bwd 3 (intVals l)) := by
  obtain ⟨h1, h2, h3, h4⟩ := hh.out
  have g3 := h3.chg hc n1
  have g4 := h4.chg hc n2
  exact ⟨⟨g3.cell 4, g3.cell 6, (g4.cell K).trans hk⟩, Lib.hid ⟨hm, h2.trans hc (fun _ _ h => h), g3, g4⟩⟩

theorem memOf {A B : Prop} {W : World} {b bw bb : Nat} {ws : List Nat} (h : A ∧ Hid (MemAt W b bw bb ws ∧ B)) : MemAt W b bw bb ws := h.2.out.1

def askG (k x g : Nat) : Nat := if k = 0 ∨ x < g then x else g
def askCells (a s m bwd n pc k p g' code : Nat) : List Value :=
  if k + 1 < n then opCells a s m bwd n pc (k + 1) p g' code else if heldN s m p g' then opCells a s m bwd n 3 (k + 1) 0 g' 15 else opCells a s m bwd n 2 (k + 1) p g' code
set_option maxHeartbeats 4000000 in
/-- ask: a word that holds back. -/
theorem ask_calls (bo : Nat) (a s m bwd pc k p g code : Nat) (l : List Int) (c : Nat) (b bw bb : Nat) (ws : List Nat) (w : World) (hb : Blk w bo 104 (opCells a s m bwd l.length pc k p g code)) (hw : Blk w bwd 3 (intVals l)) (hm : MemAt w b bw bb ws)
    (hk : l[k]? = some (c : Int)) (hc : c < ws.length) (hl : l.length ≤ 64) (hs : s ≤ 1024) (hmm : m ≤ 1024) (hp : p < 18446744073709551616) (hg : g < 18446744073709551616)
    (n1 : bo ≠ b) (n2 : bo ≠ bw) (n3 : bo ≠ bb) (n4 : bwd ≠ b) :
    Calls Try.prog 63 #[.pointer (some ⟨bo, 0, none⟩), .pointer (some ⟨b, 0, none⟩)] w fun e w' => e = .returned (.tuple #[]) ∧
      Blk w' bo 104 (askCells a s m bwd l.length pc k p (askG k (ws.getD c 0) g) code) ∧
      MemAt w' b bw bb ws ∧ Chg (fun j => j = b ∨ j = bo) w w' := by
  have hld := fun W (h : MemAt W b bw bb ws) => load_calls b bw bb ws c W h hc
  have HLD := Lib.hid hld
  have hx := hm.getD_lt c
  have hkl : k < l.length := by rcases Nat.lt_or_ge k l.length with h | h; exact h; rw [List.getElem?_eq_none h] at hk; cases hk
  have hik : (intVals l)[k]? = some (.int .i64 (c : Int)) := by unfold intVals; rw [List.getElem?_map, hk]; rfl
  obtain ⟨_, _, _, _, h4, _, h6, _⟩ := op_cells hb
  have hwk : w.cell? ⟨bwd, k, none⟩ = some (.int .i64 (c : Int)) := (hw.cell k).trans hik
  have HI : Hid (MemAt w b bw bb ws ∧ Chg (fun j => j = b) w w ∧ Blk w bo 104 (opCells a s m bwd l.length pc k p g code) ∧ Blk w bwd 3 (intVals l)) := Lib.hid ⟨hm, Chg.refl _ _, hb, hw⟩
  have HKEEP := Lib.hid (fun W W' (hh : Hid (MemAt W b bw bb ws ∧ Chg (fun j => j = b) w W ∧ Blk W bo 104 (opCells a s m bwd l.length pc k p g code) ∧ Blk W bwd 3 (intVals l))) (h1 : MemAt W' b bw bb ws) (h2 : Chg (fun j => j = b) W W') => keepA n1 n4 hh hik h1 h2)
  clear hld hb hw hm hk hc hik
  generalize intVals l = cs at *
  generalize l.length = n at *
  generalize ws.getD c 0 = x at *
  have i1 : (k : Int) < (n : Int) := by omega
  have i2 : (0 : Int) ≤ (k : Int) := by omega
  have hwk1 : wrap64 ((k : Int) + 1) = ((k + 1 : Nat) : Int) := by unfold wrap64; omega
  obtain ⟨g', hg'⟩ : ∃ g', askG k x g = g' := ⟨_, rfl⟩
  rw [hg']
  have hcs : (((k : Int) == 0) = true ∧ g' = x) ∨ (((k : Int) == 0) = false ∧ decide (x < g) = true ∧ g' = x) ∨ (((k : Int) == 0) = false ∧ decide (x < g) = false ∧ g' = g) := by
    unfold askG at hg'
    by_cases q1 : k = 0
    · left; rw [if_pos (.inl q1)] at hg'; exact ⟨by rw [q1]; rfl, hg'.symm⟩
    · right
      have q2 : ((k : Int) == 0) = false := by rw [beq_eq_false_iff_ne]; omega
      by_cases q3 : x < g
      · left; rw [if_pos (.inr q3)] at hg'; exact ⟨q2, by simp [q3], hg'.symm⟩
      · right; rw [if_neg (by simp [q1, q3])] at hg'; exact ⟨q2, by simp; omega, hg'.symm⟩
  have hgl : g' < 18446744073709551616 := by rcases hcs with ⟨_, e⟩ | ⟨_, _, e⟩ | ⟨_, _, e⟩ <;> omega
  clear hg'
  obtain ⟨cells, hcells⟩ : ∃ cells, askCells a s m bwd n pc k p g' code = cells := ⟨_, rfl⟩
  rw [hcells]
  have hcs2 : (decide (k + 1 < n) = true ∧ cells = opCells a s m bwd n pc (k + 1) p g' code) ∨ (decide (k + 1 < n) = false ∧ heldN s m p g' = true ∧ cells = opCells a s m bwd n 3 (k + 1) 0 g' 15) ∨ (decide (k + 1 < n) = false ∧ heldN s m p g' = false ∧ cells = opCells a s m bwd n 2 (k + 1) p g' code) := by
    unfold askCells at hcells
    by_cases q1 : k + 1 < n
    · left; rw [if_pos q1] at hcells; exact ⟨by simp [q1], hcells.symm⟩
    · right
      rw [if_neg q1] at hcells
      cases q2 : heldN s m p g'
      · right; rw [q2] at hcells; exact ⟨by simp; omega, rfl, hcells.symm⟩
      · left; rw [q2] at hcells; exact ⟨by simp; omega, rfl, hcells.symm⟩
  clear hcells
  have HH := Lib.hid (fun k W (h : Blk W bo 104 (opCells a s m bwd n 2 k p g' code)) => held_calls bo a s m bwd n 2 k p g' code W h hs hmm hp hgl)
  clear hs hmm hp hgl hg hx hkl
  rcases hcs with ⟨tk, hge⟩ | ⟨tk, tx, hge⟩ | ⟨tk, tx, hge⟩
  all_goals
   have HG := Lib.hid hge
   clear hge
   go_enter Try.func63, Try.ntmps63
   go_wp2_with fail
   go_region_held3 (fun W => (W.cell? ⟨bo, 4, none⟩ = some (.slice (some ⟨bwd, 0, none⟩) n n) ∧ W.cell? ⟨bo, 6, none⟩ = some (.int .i64 k) ∧ W.cell? ⟨bwd, k, none⟩ = some (.int .i64 c)) ∧ Hid (MemAt W b bw bb ws ∧ Chg (fun j => j = b) w W ∧ Blk W bo 104 (opCells a s m bwd n pc k p g code) ∧ Blk W bwd 3 cs)) (first | exact ⟨⟨h4, h6, hwk⟩, Lib.hid ⟨HI.out.1.drew, HI.out.2.1.drew, HI.out.2.2.1, HI.out.2.2.2⟩⟩ | exact HKEEP.out _ _ (And.right (by assumption)) (by assumption) (by assumption) | assumption) (first | (go_at_call 21; refine (HLD.out _ (memOf (by assumption))).mono ?_; rintro e w' ⟨rfl, hm1, hc1⟩))
   rename_i hh
   obtain ⟨_, HI2⟩ := hh
   have hb2 := HI2.out.2.2.1
   obtain ⟨_, _, _, _, _, y5, _, y7, y8, _⟩ := op_cells hb2
   have z8 := hb2.free 8
   have z6 := hb2.free 6
   clear hb2
   go_wp2_with fail
   first
   | (obtain ⟨W2, hW2, hb3, hm3, hc3⟩ : ∃ W2, W2 = (w'.setCell ⟨bo, 8, none⟩ (.int .u64 x)).setCell ⟨bo, 6, none⟩ (.int .i64 ((k : Int) + 1)) ∧ Blk W2 bo 104 (opCells a s m bwd n pc (k + 1) p g' code) ∧ MemAt W2 b bw bb ws ∧ Chg (fun j => j = b ∨ j = bo) w W2 :=
       ⟨_, rfl, by rw [HG.out]; exact (HI2.out.2.2.1.set 8 (.int .u64 x)).set 6 (.int .i64 ((k : Int) + 1)), (HI2.out.1.other _ _ n1.symm n2.symm n3.symm).other _ _ n1.symm n2.symm n3.symm, ((HI2.out.2.1.mono (fun _ _ h => .inl h)).setCell ⟨bo, 8, none⟩ _ (fun _ => .inr rfl)).setCell ⟨bo, 6, none⟩ _ (fun _ => .inr rfl)⟩
      rw [← hW2]
      clear hW2)
   | (obtain ⟨W2, hW2, hb3, hm3, hc3⟩ : ∃ W2, W2 = w'.setCell ⟨bo, 6, none⟩ (.int .i64 ((k : Int) + 1)) ∧ Blk W2 bo 104 (opCells a s m bwd n pc (k + 1) p g' code) ∧ MemAt W2 b bw bb ws ∧ Chg (fun j => j = b ∨ j = bo) w W2 :=
       ⟨_, rfl, by rw [HG.out]; exact HI2.out.2.2.1.set 6 (.int .i64 ((k : Int) + 1)), HI2.out.1.other _ _ n1.symm n2.symm n3.symm, (HI2.out.2.1.mono (fun _ _ h => .inl h)).setCell ⟨bo, 6, none⟩ _ (fun _ => .inr rfl)⟩
      rw [← hW2]
      clear hW2)
   have v4 : W2.cell? ⟨bo, 4, none⟩ = some (.slice (some ⟨bwd, 0, none⟩) n n) := hb3.cell 4
   have v5 : W2.cell? ⟨bo, 5, none⟩ = some (.int .i64 pc) := hb3.cell 5
   have v6 : W2.cell? ⟨bo, 6, none⟩ = some (.int .i64 ((k : Int) + 1)) := hb3.cell 6
   have u5 := hb3.free 5
   have H3 := Lib.hid (And.intro hb3 (And.intro hm3 hc3))
   clear hb3 hm3 hc3 y5 y7 y8 z8 z6
   rcases hcs2 with ⟨tn, hce⟩ | ⟨tn, th, hce⟩ | ⟨tn, th, hce⟩
   · have tn2 : decide ((k : Int) + 1 < (n : Int)) = true := by simp at tn ⊢; omega
     have HCE := Lib.hid hce
     clear hce
     go_region
     go_wp2
     (try simp only [Exit.inBlock, Exit.then])
     refine bodyPost_ret (results_none rfl _ _ _) rfl ?_
     exact ⟨rfl, by rw [HCE.out]; exact H3.out.1, H3.out.2.1.drew, H3.out.2.2.drew⟩
   · have tn2 : decide ((k : Int) + 1 < (n : Int)) = false := by simp at tn ⊢; omega
     have HCE := Lib.hid hce
     clear hce
     rw [th] at HH
     clear th
     go_region
     go_wp2_with fail
     refine (HH.out (k + 1) _ ((H3.out.1.set 5 (.int .i64 2)).drew)).mono ?_; rintro e w4 ⟨rfl, hb4⟩
     have h4b : Blk w4 bo 104 (opCells a s m bwd n 2 (k + 1) p g' code) := ((H3.out.1.set 5 (.int .i64 2)).drew).chg (chg_of_below (fun _ => False) hb4) (fun h => h)
     have h4m : MemAt w4 b bw bb ws := ((H3.out.2.1.other ⟨bo, 5, none⟩ (.int .i64 2) n1.symm n2.symm n3.symm).drew).below hb4
     have h4c : Chg (fun j => j = b ∨ j = bo) w w4 := ((H3.out.2.2.setCell ⟨bo, 5, none⟩ (.int .i64 2) (fun _ => .inr rfl)).drew).trans (chg_of_below (fun j => j = b ∨ j = bo) hb4) (fun _ _ h => h)
     have H4 := Lib.hid (And.intro h4b (And.intro h4m h4c))
     clear hb4 h4b h4m h4c
     go_wp2_with (first | (go_at_call 60; refine (end_calls bo a s m bwd n 2 (k + 1) p g' code 15 0 _ H4.out.1).mono ?_; rintro e w5 ⟨rfl, hh1, hh2⟩; have HE := Lib.hid (And.intro hh1 hh2); clear hh1 hh2))
     go_end0
     exact ⟨rfl, by rw [HCE.out]; exact HE.out.1, H4.out.2.1.chg HE.out.2 n1.symm n2.symm n3.symm, H4.out.2.2.trans HE.out.2 (fun _ _ h => .inr h)⟩
   · have tn2 : decide ((k : Int) + 1 < (n : Int)) = false := by simp at tn ⊢; omega
     have HCE := Lib.hid hce
     clear hce
     rw [th] at HH
     clear th
     go_region
     go_wp2_with fail
     refine (HH.out (k + 1) _ ((H3.out.1.set 5 (.int .i64 2)).drew)).mono ?_; rintro e w4 ⟨rfl, hb4⟩
     have h4b : Blk w4 bo 104 (opCells a s m bwd n 2 (k + 1) p g' code) := ((H3.out.1.set 5 (.int .i64 2)).drew).chg (chg_of_below (fun _ => False) hb4) (fun h => h)
     have h4m : MemAt w4 b bw bb ws := ((H3.out.2.1.other ⟨bo, 5, none⟩ (.int .i64 2) n1.symm n2.symm n3.symm).drew).below hb4
     have h4c : Chg (fun j => j = b ∨ j = bo) w w4 := ((H3.out.2.2.setCell ⟨bo, 5, none⟩ (.int .i64 2) (fun _ => .inr rfl)).drew).trans (chg_of_below (fun j => j = b ∨ j = bo) hb4) (fun _ _ h => h)
     have H4 := Lib.hid (And.intro h4b (And.intro h4m h4c))
     clear hb4 h4b h4m h4c
     go_wp2
     go_end0
     exact ⟨rfl, by rw [HCE.out]; exact H4.out.1, H4.out.2.1, H4.out.2.2⟩
end Go.Proofs.Ytjmooohhndjmiaa
