/- contracts of package cursor: claim, Step. -/
import Derived.Test.YtjmooohhndjmiaaCurD
import Derived.StillTailTactics
namespace Go.Proofs.Ytjmooohhndjmiaa
open Go.RowKit Go.Deep
set_option maxRecDepth 100000

theorem claimed_calls (bo : Nat) (a s m bwd n pc k p g code : Nat) (b bw bb : Nat) (ws : List Nat) (w : World) (hb : Blk w bo 104 (opCells a s m bwd n pc k p g code)) (hm : MemAt w b bw bb ws) (ha : a < ws.length) (hmm : m ≤ 1024)
    (n1 : bo ≠ b) (n2 : bo ≠ bw) (n3 : bo ≠ bb) :
    Calls Try.prog 64 #[.pointer (some ⟨bo, 0, none⟩), .pointer (some ⟨b, 0, none⟩)] w fun e w' => e = .returned (.tuple #[]) ∧
      Blk w' bo 104 (opCells a s m bwd n (if ws.getD a 0 = p then 3 else 0) k p g (if ws.getD a 0 = p then 0 else code)) ∧ MemAt w' b bw bb (if ws.getD a 0 = p then ws.set a ((p + m) % 18446744073709551616) else ws) ∧ Chg (fun j => j = b ∨ j = bw ∨ j = bo) w w' := by
  obtain ⟨_, h1, h2, h3, h4, h5, h6, h7, h8, _⟩ := op_cells hb
  have z5 := hb.free 5
  obtain ⟨w1, hw1, hb1, hm1, hc1⟩ : ∃ w1, w1 = w.setCell ⟨bo, 5, none⟩ (.int .i64 0) ∧ Blk w1 bo 104 (opCells a s m bwd n 0 k p g code) ∧ MemAt w1 b bw bb ws ∧ Chg (fun j => j = b ∨ j = bw ∨ j = bo) w w1 :=
    ⟨_, rfl, hb.set 5 (.int .i64 0), hm.other _ _ n1.symm n2.symm n3.symm, (Chg.refl _ _).setCell ⟨bo, 5, none⟩ _ (fun _ => .inr (.inr rfl))⟩
  obtain ⟨_, y1, y2, y3, y4, y5, y6, y7, y8, _⟩ := op_cells hb1
  have wm : IntKind.u64.wrap (m : Int) = (m : Int) := wrap_small m (by omega)
  have wp : IntKind.u64.wrap ((p : Int) + (m : Int)) = ((((p + m) % 18446744073709551616 : Nat)) : Int) := by rw [← Int.natCast_add]; exact wrap_nat _
  have HSw := Lib.hid (fun W (h : MemAt W b bw bb ws) => swap_calls b bw bb ws a p ((p + m) % 18446744073709551616) W h ha (Nat.mod_lt _ (by decide)))
  generalize (p + m) % 18446744073709551616 = q at *
  have HW := Lib.hid hw1
  have H1 := Lib.hid (And.intro hb1 (And.intro hm1 hc1))
  clear hw1 hb1 hm1 hc1 hb hm
  by_cases hv : ws.getD a 0 = p
  · rw [if_pos hv, if_pos hv, if_pos hv]
    have HSw2 : Hid (∀ W, MemAt W b bw bb ws → Calls Try.prog 23 #[.pointer (some ⟨b, 0, none⟩), .int .i64 a, .int .u64 p, .int .u64 q] W fun e w' => e = .returned (.bool true) ∧ MemAt w' b bw bb (ws.set a q) ∧ Chg (fun k => k = b ∨ k = bw) W w') := Lib.hid (fun W h => (HSw.out W h).mono fun e w' ⟨g1, g2, g3⟩ => ⟨by rw [g1, decide_eq_true hv], by rwa [if_pos hv] at g2, g3⟩)
    clear HSw hv
    go_enter Try.func64, Try.ntmps64
    go_wp2_with fail
    rw [← HW.out]
    go_still_tail 20, (by kernel_rfl)
    change wpList _ _ _ _ _ w1.drew
    obtain ⟨w2, hw2⟩ : ∃ w2, w2 = w1.drew := ⟨_, rfl⟩
    have H2 : Hid (Blk w2 bo 104 (opCells a s m bwd n 0 k p g code) ∧ MemAt w2 b bw bb ws ∧ Chg (fun j => j = b ∨ j = bw ∨ j = bo) w w2) := Lib.hid (by rw [hw2]; exact ⟨H1.out.1.drew, H1.out.2.1.drew, H1.out.2.2.drew⟩)
    rw [← hw2]
    clear hw2 y1 y2 y3 y4 y5 y6 y7 y8
    go_wp2_with fail
    refine (HSw2.out w2 H2.out.2.1).mono ?_; rintro e w4 ⟨rfl, hh1, hh2⟩
    have h4b : Blk w4 bo 104 (opCells a s m bwd n 0 k p g code) := H2.out.1.chg hh2 (fun h => h.elim n1 n2)
    have x7 : w4.cell? ⟨bo, 7, none⟩ = some (.int .u64 p) := h4b.cell 7
    have H4 := Lib.hid (And.intro h4b (And.intro hh1 (H2.out.2.2.trans hh2 (fun _ _ h => h.elim .inl (fun h => .inr (.inl h))))))
    clear hh1 hh2 h4b
    go_wp2_with fail
    refine (end_calls bo a s m bwd n 0 k p g code 0 p w4 H4.out.1).mono ?_; rintro e w5 ⟨rfl, hh1, hh2⟩; have HE := Lib.hid (And.intro hh1 hh2); clear hh1 hh2
    go_wp2
    go_end0
    exact ⟨rfl, HE.out.1, H4.out.2.1.chg HE.out.2 n1.symm n2.symm n3.symm, H4.out.2.2.trans HE.out.2 (fun _ _ h => .inr (.inr h))⟩
  · rw [if_neg hv, if_neg hv, if_neg hv]
    have HSw2 : Hid (∀ W, MemAt W b bw bb ws → Calls Try.prog 23 #[.pointer (some ⟨b, 0, none⟩), .int .i64 a, .int .u64 p, .int .u64 q] W fun e w' => e = .returned (.bool false) ∧ MemAt w' b bw bb ws ∧ Chg (fun k => k = b ∨ k = bw) W w') := Lib.hid (fun W h => (HSw.out W h).mono fun e w' ⟨g1, g2, g3⟩ => ⟨by rw [g1, decide_eq_false hv], by rwa [if_neg hv] at g2, g3⟩)
    clear HSw hv
    go_enter Try.func64, Try.ntmps64
    go_wp2_with fail
    rw [← HW.out]
    go_still_tail 20, (by kernel_rfl)
    change wpList _ _ _ _ _ w1.drew
    obtain ⟨w2, hw2⟩ : ∃ w2, w2 = w1.drew := ⟨_, rfl⟩
    have H2 : Hid (Blk w2 bo 104 (opCells a s m bwd n 0 k p g code) ∧ MemAt w2 b bw bb ws ∧ Chg (fun j => j = b ∨ j = bw ∨ j = bo) w w2) := Lib.hid (by rw [hw2]; exact ⟨H1.out.1.drew, H1.out.2.1.drew, H1.out.2.2.drew⟩)
    rw [← hw2]
    clear hw2 y1 y2 y3 y4 y5 y6 y7 y8
    go_wp2_with fail
    refine (HSw2.out w2 H2.out.2.1).mono ?_; rintro e w4 ⟨rfl, hh1, hh2⟩
    have h4b : Blk w4 bo 104 (opCells a s m bwd n 0 k p g code) := H2.out.1.chg hh2 (fun h => h.elim n1 n2)
    have H4 := Lib.hid (And.intro h4b (And.intro hh1 (H2.out.2.2.trans hh2 (fun _ _ h => h.elim .inl (fun h => .inr (.inl h))))))
    clear hh1 hh2 h4b
    go_wp2
    go_end0
    exact ⟨rfl, H4.out.1, H4.out.2.1, H4.out.2.2⟩

/-- one step: the operation and the words behind it. -/
structure NOp where
  (a s m : Nat)
  (words : List Nat)
  (pc k p g code : Nat)
def OpAt (w : World) (bo bwd : Nat) (o : NOp) : Prop :=
  Blk w bo 104 (opCells o.a o.s o.m bwd o.words.length o.pc o.k o.p o.g o.code) ∧ Blk w bwd 3 (intVals (o.words.map fun x : Nat => (x : Int)))
structure NOk (o : NOp) (n : Nat) : Prop where
  a : o.a < n
  s : o.s ≤ 1024
  m : o.m ≤ 1024
  w : ∀ x ∈ o.words, x < n
  l : o.words.length ≤ 64
  p : o.p < 18446744073709551616
  g : o.g < 18446744073709551616
  k : o.pc = 1 → o.k < o.words.length
  pc : o.pc ≤ 3
def stepN (o : NOp) (ws : List Nat) : NOp × List Nat :=
  match o.pc with
  | 0 => ({ o with pc := if o.m = 0 then 3 else if o.words.length = 0 then 2 else 1, k := 0, p := ws.getD o.a 0, code := if o.m = 0 then 0 else o.code }, ws)
  | 1 =>
    let g := askG o.k (ws.getD (o.words.getD o.k 0) 0) o.g
    if o.k + 1 < o.words.length then ({ o with k := o.k + 1, g := g }, ws)
    else if heldN o.s o.m o.p g then ({ o with pc := 3, k := o.k + 1, p := 0, g := g, code := 15 }, ws)
    else ({ o with pc := 2, k := o.k + 1, g := g }, ws)
  | 2 => ({ o with pc := if ws.getD o.a 0 = o.p then 3 else 0, code := if ws.getD o.a 0 = o.p then 0 else o.code }, if ws.getD o.a 0 = o.p then ws.set o.a ((o.p + o.m) % 18446744073709551616) else ws)
  | _ => (o, ws)

theorem step_walk0 (bo : Nat) (a s m bwd n k p g code pc' k' p' g' code' : Nat) (b bw bb : Nat) (ws ws' : List Nat) (w : World) (hb : Blk w bo 104 (opCells a s m bwd n 0 k p g code)) (hm : MemAt w b bw bb ws) (S : Nat → Prop)
    (hcall : Calls Try.prog 62 #[.pointer (some ⟨bo, 0, none⟩), .pointer (some ⟨b, 0, none⟩)] w fun e w' => e = .returned (.tuple #[]) ∧ Blk w' bo 104 (opCells a s m bwd n pc' k' p' g' code') ∧ MemAt w' b bw bb ws' ∧ Chg S w w') :
    Calls Try.prog 49 #[.pointer (some ⟨bo, 0, none⟩), .pointer (some ⟨b, 0, none⟩)] w fun e w' => e = .returned (.bool (decide (pc' = 3))) ∧ Blk w' bo 104 (opCells a s m bwd n pc' k' p' g' code') ∧ MemAt w' b bw bb ws' ∧ Chg S w w' := by
  have hd := done_calls bo a s m bwd n 0 k p g code w hb
  have hlen := len_calls b bw bb ws w hm
  have hpos := hm.pos
  have h5 : w.cell? ⟨bo, 5, none⟩ = some (.int .i64 0) := hb.cell 5
  have hne : ((ws.length : Int) == 0) = false := by rw [beq_eq_false_iff_ne]; omega
  have HD := Lib.hid hd
  have HL := Lib.hid hlen
  have HC := Lib.hid hcall
  have HDN := Lib.hid (fun W (h : Blk W bo 104 (opCells a s m bwd n pc' k' p' g' code')) => done_calls bo a s m bwd n pc' k' p' g' code' W h)
  obtain ⟨v, hv⟩ : ∃ v, decide (pc' = 3) = v := ⟨_, rfl⟩
  simp only [hv] at HDN ⊢
  clear hd hlen hcall hb hm hpos hv
  generalize ws.length = L at *
  go_enter Try.func49, Try.ntmps49
  go_wp2_with fail
  refine HD.out.mono ?_; rintro e w1 ⟨rfl, rfl⟩
  go_wp2_with fail
  refine HL.out.mono ?_; rintro e w1 ⟨rfl, rfl⟩
  go_wp2_with fail
  refine HC.out.mono ?_; rintro e w1 ⟨rfl, hh⟩
  have HH := Lib.hid hh
  clear hh
  go_wp2_with fail
  refine (HDN.out w1 HH.out.1).mono ?_; rintro e w2 ⟨rfl, rfl⟩
  go_wp2
  go_ret
  exact ⟨rfl, HH.out⟩
theorem step_walk1 (bo : Nat) (a s m bwd n k p g code pc' k' p' g' code' : Nat) (b bw bb : Nat) (ws ws' : List Nat) (w : World) (hb : Blk w bo 104 (opCells a s m bwd n 1 k p g code)) (hm : MemAt w b bw bb ws) (S : Nat → Prop)
    (hcall : Calls Try.prog 63 #[.pointer (some ⟨bo, 0, none⟩), .pointer (some ⟨b, 0, none⟩)] w fun e w' => e = .returned (.tuple #[]) ∧ Blk w' bo 104 (opCells a s m bwd n pc' k' p' g' code') ∧ MemAt w' b bw bb ws' ∧ Chg S w w') :
    Calls Try.prog 49 #[.pointer (some ⟨bo, 0, none⟩), .pointer (some ⟨b, 0, none⟩)] w fun e w' => e = .returned (.bool (decide (pc' = 3))) ∧ Blk w' bo 104 (opCells a s m bwd n pc' k' p' g' code') ∧ MemAt w' b bw bb ws' ∧ Chg S w w' := by
  have hd := done_calls bo a s m bwd n 1 k p g code w hb
  have hlen := len_calls b bw bb ws w hm
  have hpos := hm.pos
  have h5 : w.cell? ⟨bo, 5, none⟩ = some (.int .i64 1) := hb.cell 5
  have hne : ((ws.length : Int) == 0) = false := by rw [beq_eq_false_iff_ne]; omega
  have HD := Lib.hid hd
  have HL := Lib.hid hlen
  have HC := Lib.hid hcall
  have HDN := Lib.hid (fun W (h : Blk W bo 104 (opCells a s m bwd n pc' k' p' g' code')) => done_calls bo a s m bwd n pc' k' p' g' code' W h)
  obtain ⟨v, hv⟩ : ∃ v, decide (pc' = 3) = v := ⟨_, rfl⟩
  simp only [hv] at HDN ⊢
  clear hd hlen hcall hb hm hpos hv
  generalize ws.length = L at *
  go_enter Try.func49, Try.ntmps49
  go_wp2_with fail
  refine HD.out.mono ?_; rintro e w1 ⟨rfl, rfl⟩
  go_wp2_with fail
  refine HL.out.mono ?_; rintro e w1 ⟨rfl, rfl⟩
  go_wp2_with fail
  refine HC.out.mono ?_; rintro e w1 ⟨rfl, hh⟩
  have HH := Lib.hid hh
  clear hh
  go_wp2_with fail
  refine (HDN.out w1 HH.out.1).mono ?_; rintro e w2 ⟨rfl, rfl⟩
  go_wp2
  go_ret
  exact ⟨rfl, HH.out⟩
theorem step_walk2 (bo : Nat) (a s m bwd n k p g code pc' k' p' g' code' : Nat) (b bw bb : Nat) (ws ws' : List Nat) (w : World) (hb : Blk w bo 104 (opCells a s m bwd n 2 k p g code)) (hm : MemAt w b bw bb ws) (S : Nat → Prop)
    (hcall : Calls Try.prog 64 #[.pointer (some ⟨bo, 0, none⟩), .pointer (some ⟨b, 0, none⟩)] w fun e w' => e = .returned (.tuple #[]) ∧ Blk w' bo 104 (opCells a s m bwd n pc' k' p' g' code') ∧ MemAt w' b bw bb ws' ∧ Chg S w w') :
    Calls Try.prog 49 #[.pointer (some ⟨bo, 0, none⟩), .pointer (some ⟨b, 0, none⟩)] w fun e w' => e = .returned (.bool (decide (pc' = 3))) ∧ Blk w' bo 104 (opCells a s m bwd n pc' k' p' g' code') ∧ MemAt w' b bw bb ws' ∧ Chg S w w' := by
  have hd := done_calls bo a s m bwd n 2 k p g code w hb
  have hlen := len_calls b bw bb ws w hm
  have hpos := hm.pos
  have h5 : w.cell? ⟨bo, 5, none⟩ = some (.int .i64 2) := hb.cell 5
  have hne : ((ws.length : Int) == 0) = false := by rw [beq_eq_false_iff_ne]; omega
  have HD := Lib.hid hd
  have HL := Lib.hid hlen
  have HC := Lib.hid hcall
  have HDN := Lib.hid (fun W (h : Blk W bo 104 (opCells a s m bwd n pc' k' p' g' code')) => done_calls bo a s m bwd n pc' k' p' g' code' W h)
  obtain ⟨v, hv⟩ : ∃ v, decide (pc' = 3) = v := ⟨_, rfl⟩
  simp only [hv] at HDN ⊢
  clear hd hlen hcall hb hm hpos hv
  generalize ws.length = L at *
  go_enter Try.func49, Try.ntmps49
  go_wp2_with fail
  refine HD.out.mono ?_; rintro e w1 ⟨rfl, rfl⟩
  go_wp2_with fail
  refine HL.out.mono ?_; rintro e w1 ⟨rfl, rfl⟩
  go_wp2_with fail
  refine HC.out.mono ?_; rintro e w1 ⟨rfl, hh⟩
  have HH := Lib.hid hh
  clear hh
  go_wp2_with fail
  refine (HDN.out w1 HH.out.1).mono ?_; rintro e w2 ⟨rfl, rfl⟩
  go_wp2
  go_ret
  exact ⟨rfl, HH.out⟩
theorem step_walk3 (bo : Nat) (a s m bwd n k p g code : Nat) (b : Nat) (w : World) (hb : Blk w bo 104 (opCells a s m bwd n 3 k p g code)) :
    Calls Try.prog 49 #[.pointer (some ⟨bo, 0, none⟩), .pointer (some ⟨b, 0, none⟩)] w fun e w' => e = .returned (.bool true) ∧ w = w' := by
  have hd := done_calls bo a s m bwd n 3 k p g code w hb
  have HD := Lib.hid hd
  clear hd hb
  go_enter Try.func49, Try.ntmps49
  go_wp2_with fail
  refine HD.out.mono ?_; rintro e w1 ⟨rfl, rfl⟩
  go_wp2_with fail
  refine HD.out.mono ?_; rintro e w1 ⟨rfl, rfl⟩
  go_wp2
  go_ret
  exact ⟨rfl, rfl⟩

theorem step_calls (bo bwd : Nat) (o : NOp) (b bw bb : Nat) (ws : List Nat) (w : World) (hb : OpAt w bo bwd o) (hm : MemAt w b bw bb ws) (ho : NOk o ws.length)
    (n1 : bo ≠ b) (n2 : bo ≠ bw) (n3 : bo ≠ bb) (n4 : bwd ≠ b) (n5 : bwd ≠ bw) (n7 : bo ≠ bwd) :
    Calls Try.prog 49 #[.pointer (some ⟨bo, 0, none⟩), .pointer (some ⟨b, 0, none⟩)] w fun e w' => e = .returned (.bool (decide ((stepN o ws).1.pc = 3))) ∧
      OpAt w' bo bwd (stepN o ws).1 ∧ MemAt w' b bw bb (stepN o ws).2 ∧ Chg (fun j => j = b ∨ j = bw ∨ j = bo) w w' := by
  obtain ⟨a, s, m, words, pc, k, p, g, code⟩ := o
  obtain ⟨hbo, hbw⟩ := hb
  have hfin : ∀ (o' : NOp) (ws' : List Nat), o'.words = words → o'.a = a → o'.s = s → o'.m = m → (stepN ⟨a, s, m, words, pc, k, p, g, code⟩ ws) = (o', ws') → ∀ (e : Ending) w', (e = Ending.returned (.bool (decide (o'.pc = 3))) ∧ Blk w' bo 104 (opCells a s m bwd words.length o'.pc o'.k o'.p o'.g o'.code) ∧ MemAt w' b bw bb ws' ∧ Chg (fun j => j = b ∨ j = bw ∨ j = bo) w w') →
      e = Ending.returned (.bool (decide ((stepN ⟨a, s, m, words, pc, k, p, g, code⟩ ws).1.pc = 3))) ∧ OpAt w' bo bwd (stepN ⟨a, s, m, words, pc, k, p, g, code⟩ ws).1 ∧ MemAt w' b bw bb (stepN ⟨a, s, m, words, pc, k, p, g, code⟩ ws).2 ∧ Chg (fun j => j = b ∨ j = bw ∨ j = bo) w w' := by
    intro o' ws' e1 e2 e3 e4 he e w' ⟨g1, g2, g3, g4⟩
    rw [he]
    refine ⟨g1, ⟨?_, ?_⟩, g3, g4⟩
    · rw [e1, e2, e3, e4]; exact g2
    · rw [e1]; exact hbw.chg g4 (fun h => h.elim n4 (fun h => h.elim n5 (fun h => n7 h.symm)))
  have ha : a < ws.length := ho.a
  have hs : s ≤ 1024 := ho.s
  have hmm : m ≤ 1024 := ho.m
  have hp : p < 18446744073709551616 := ho.p
  have hg : g < 18446744073709551616 := ho.g
  have hl : words.length ≤ 64 := ho.l
  match pc, ho.pc with
  | 0, _ =>
    refine (step_walk0 bo a s m bwd words.length k p g code _ _ _ _ _ b bw bb ws ws w hbo hm _ (look_calls bo a s m bwd words.length 0 k p g code b bw bb ws w hbo hm ha n1 n2 n3)).mono fun e w' ⟨g1, g2, g3, g4⟩ => ?_
    exact hfin _ _ rfl rfl rfl rfl rfl e w' ⟨g1, g2, g3, g4.mono (fun _ _ h => h.elim .inl (fun h => .inr (.inr h)))⟩
  | 1, _ =>
    have hk : k < words.length := ho.k rfl
    have hk1 : (words.map fun x : Nat => (x : Int))[k]? = some ((words.getD k 0 : Nat) : Int) := by simp [List.getD, hk]
    have hwk : words.getD k 0 < ws.length := ho.w _ (by simp [List.getD, hk])
    have hak := ask_calls bo a s m bwd 1 k p g code (words.map fun x : Nat => (x : Int)) (words.getD k 0) b bw bb ws w (by rw [List.length_map]; exact hbo) hbw hm hk1 hwk (by rw [List.length_map]; exact hl) hs hmm hp hg n1 n2 n3 n4
    rw [List.length_map] at hak
    unfold askCells at hak
    by_cases q1 : k + 1 < words.length
    · rw [if_pos q1] at hak
      refine (step_walk1 bo a s m bwd words.length k p g code _ _ _ _ _ b bw bb ws ws w hbo hm _ hak).mono fun e w' ⟨g1, g2, g3, g4⟩ => ?_
      exact hfin ⟨a, s, m, words, 1, k + 1, p, askG k (ws.getD (words.getD k 0) 0) g, code⟩ ws rfl rfl rfl rfl (by simp only [stepN]; rw [if_pos q1]) e w' ⟨g1, g2, g3, g4.mono (fun _ _ h => h.elim .inl (fun h => .inr (.inr h)))⟩
    · rw [if_neg q1] at hak
      cases q2 : heldN s m p (askG k (ws.getD (words.getD k 0) 0) g)
      · simp only [q2] at hak
        refine (step_walk1 bo a s m bwd words.length k p g code _ _ _ _ _ b bw bb ws ws w hbo hm _ hak).mono fun e w' ⟨g1, g2, g3, g4⟩ => ?_
        exact hfin ⟨a, s, m, words, 2, k + 1, p, askG k (ws.getD (words.getD k 0) 0) g, code⟩ ws rfl rfl rfl rfl (by simp only [stepN]; rw [if_neg q1, q2]; rfl) e w' ⟨g1, g2, g3, g4.mono (fun _ _ h => h.elim .inl (fun h => .inr (.inr h)))⟩
      · simp only [q2, if_true] at hak
        refine (step_walk1 bo a s m bwd words.length k p g code _ _ _ _ _ b bw bb ws ws w hbo hm _ hak).mono fun e w' ⟨g1, g2, g3, g4⟩ => ?_
        exact hfin ⟨a, s, m, words, 3, k + 1, 0, askG k (ws.getD (words.getD k 0) 0) g, 15⟩ ws rfl rfl rfl rfl (by simp only [stepN]; rw [if_neg q1, q2]; rfl) e w' ⟨g1, g2, g3, g4.mono (fun _ _ h => h.elim .inl (fun h => .inr (.inr h)))⟩
  | 2, _ =>
    refine (step_walk2 bo a s m bwd words.length k p g code _ _ _ _ _ b bw bb ws _ w hbo hm _ (claimed_calls bo a s m bwd words.length 2 k p g code b bw bb ws w hbo hm ha hmm n1 n2 n3)).mono fun e w' ⟨g1, g2, g3, g4⟩ => ?_
    exact hfin _ _ rfl rfl rfl rfl rfl e w' ⟨g1, g2, g3, g4⟩
  | 3, _ =>
    refine (step_walk3 bo a s m bwd words.length k p g code b w hbo).mono fun e w' ⟨g1, g2⟩ => ?_
    subst g2
    exact hfin ⟨a, s, m, words, 3, k, p, g, code⟩ ws rfl rfl rfl rfl rfl e w ⟨g1, hbo, hm, Chg.refl _ _⟩
end Go.Proofs.Ytjmooohhndjmiaa
