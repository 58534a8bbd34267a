/- contracts of package cursor: Claim, Tell, Setup. -/
import Derived.Test.YtobdpieijgiaoaaCurB
namespace Go.Proofs.Ytobdpieijgiaoaa
open Go.RowKit Go.Deep

theorem Begun.later {w W w' : World} {A S M : Int} {cs : List Value} {n : Nat} {g : Bool} {e : Ending} (h : Begun W w' A S M cs n g e) (hb : Below w.heap.size w W) : Begun w w' A S M cs n g e := by
  obtain ⟨bo, bwd, h1, h2, h3, h4, h5, h6, h7⟩ := h
  have := hb.size
  exact ⟨bo, bwd, h1, h2, h3, by omega, by omega, h6, bseq hb h7⟩
theorem Begun.ended {w w' w2 : World} {A S M : Int} {cs : List Value} {n : Nat} {bo bwd : Nat} (h2 : Blk w2 bo 68 (opCells A S M bwd n 3 0 0 0 2)) (hc : Chg (fun k => k = bo) w' w2) (h3 : Blk w' bwd 3 cs) (h4 : w.heap.size ≤ bo) (h5 : w.heap.size ≤ bwd) (h6 : bo ≠ bwd) (h7 : Below w.heap.size w w') :
    Begun w w2 A S M cs n false (.returned (.pointer (some ⟨bo, 0, none⟩))) :=
  ⟨bo, bwd, rfl, h2, h3.chg hc (fun e => h6 e.symm), h4, h5, h6, Chg.below h7 hc h7.size (fun k hk => by subst hk; exact h4)⟩

theorem tell_calls (A S : Int) (w : World) :
    Calls Try.prog 15 #[.agg #[.int .i64 A, .int .i64 S]] w fun e w' => Begun w w' A S 0 [] 0 (okB A S 0 0) e := by
  have hb := fun W => begin_calls A S 0 none 0 [] W (by decide) (fun h => absurd h (by decide))
  simp only [intVals, List.map_nil, List.length_nil] at hb
  have HB := Lib.hid hb
  clear hb
  go_enter Try.func15, Try.ntmps15
  go_wp2_with (first | (go_at_call 24; refine (HB.out _).mono ?_; intro e w' HBg; have HBg := Lib.hid HBg; obtain ⟨bo, he⟩ : ∃ bo, e = .returned (.pointer (some ⟨bo, 0, none⟩)) := (by obtain ⟨bo, _, he, _⟩ := HBg.out; exact ⟨bo, he⟩); subst he))
  go_ret
  exact HBg.out.later (bnew (Below.refl _ _) _)

set_option maxHeartbeats 1000000 in
theorem claim_calls (A S M : Int) (sp : Option Addr) (sCap : Nat) (l : List Int) (w : World) (hl : l.length ≤ 1048576)
    (hpos : 0 < l.length → ∃ ad, sp = some ad ∧ ∀ j v, (intVals l)[j]? = some v → w.cell? (ad.add j) = some v) :
    Calls Try.prog 9 #[.agg #[.int .i64 A, .int .i64 S], .int .i64 M, .slice sp l.length sCap] w fun e w' => Begun w w' A S M (intVals l) l.length (okB A S M l.length && decide (1 ≤ M)) e := by
  have hb := begin_calls A S M sp sCap l (w.alloc (.cells #[.int .i64 A, .int .i64 S] 23)) hl (fun h => by
    obtain ⟨ad, h1, h2⟩ := hpos h
    exact ⟨ad, h1, fun j v hv => kalloc _ (h2 j v hv)⟩)
  have HB := Lib.hid hb
  clear hb hpos hl
  generalize intVals l = cs at *
  generalize l.length = n at *
  obtain ⟨g, hg⟩ : ∃ g, okB A S M n = g := ⟨_, rfl⟩
  rw [hg] at HB ⊢
  clear hg
  obtain ⟨t, ht⟩ : ∃ t, decide (1 ≤ M) = t := ⟨_, rfl⟩
  rw [ht]
  have t1 : decide (M < 1) = !t := by rw [← ht]; by_cases h : 1 ≤ M <;> simp [h] <;> omega
  clear ht
  cases t
  · rw [Bool.not_false] at t1
    rw [Bool.and_false]
    go_enter Try.func9, Try.ntmps9
    go_wp2_with (first
      | (go_at_call 24
         refine HB.out.mono ?_
         intro e w' HBg
         obtain ⟨bo, bwd, rfl, f2, f3, f4, f5, f6, f7⟩ := HBg
         have F2 := Lib.hid f2; have F3 := Lib.hid f3; have F4 := Lib.hid f4; have F5 := Lib.hid f5; have F6 := Lib.hid f6; have F7 := Lib.hid f7
         clear f2 f3 f4 f5 f6 f7)
      | (go_at_call 25; refine (end_calls _ A S M _ n _ 0 0 0 _ 2 0 _ F2.out).mono ?_; rintro e w4 ⟨rfl, HE⟩; have HE := Lib.hid HE))
    go_ret
    exact (Begun.ended HE.out.1 HE.out.2 F3.out F4.out F5.out F6.out F7.out).later (bnew (Below.refl _ _) _)
  · rw [Bool.not_true] at t1
    rw [Bool.and_true]
    go_enter Try.func9, Try.ntmps9
    go_wp2_with (first | (go_at_call 24; refine HB.out.mono ?_; intro e w' HBg; have HBg := Lib.hid HBg; obtain ⟨bo, he⟩ : ∃ bo, e = .returned (.pointer (some ⟨bo, 0, none⟩)) := (by obtain ⟨bo, _, he, _⟩ := HBg.out; exact ⟨bo, he⟩); subst he))
    go_ret
    exact HBg.out.later (bnew (Below.refl _ _) _)

/-- what Setup keeps. -/
def KeptS (W1 : World) (g : Nat) (a s : Int) (W : World) : Prop := (W.cell? ⟨g, 0, none⟩ = some (.int .i64 a) ∧ W.cell? ⟨g, 1, none⟩ = some (.int .i64 s)) ∧ Hid (Below W1.heap.size W1 W)
theorem keepS {W1 W W' : World} {g : Nat} {a s : Int} (h : (W.cell? ⟨g, 0, none⟩ = some (.int .i64 a) ∧ W.cell? ⟨g, 1, none⟩ = some (.int .i64 s)) ∧ Hid (Below W1.heap.size W1 W)) (hb : Below W.heap.size W W') : (W'.cell? ⟨g, 0, none⟩ = some (.int .i64 a) ∧ W'.cell? ⟨g, 1, none⟩ = some (.int .i64 s)) ∧ Hid (Below W1.heap.size W1 W') :=
  ⟨⟨kcell hb h.1.1, kcell hb h.1.2⟩, Lib.hid (bseq h.2.out hb)⟩
theorem right_b (A S : Int) (w : World) :
    Calls Try.prog 14 #[.agg #[.int .i64 A, .int .i64 S]] w fun e w' => e = .returned (.bool (rightC A S)) ∧ Below w.heap.size w w' :=
  (right_calls A S w).mono fun _ _ ⟨h, h'⟩ => ⟨h, by subst h'; exact bnew (Below.refl _ _) _⟩

/-- Setup of a cursor that may be. -/
theorem setup_calls (a s : Nat) (x : Nat) (b bw bb : Nat) (ws : List Nat) (w : World) (hm : MemAt w b bw bb ws) (hr : rightC a s = true) (ha : a < ws.length) (hx : x < 4611686018427387904) :
    Calls Try.prog 10 #[.agg #[.int .i64 a, .int .i64 s], .pointer (some ⟨b, 0, none⟩), .int .u64 x] w fun e w' => e = .returned (.int .i64 0) ∧ MemAt w' b bw bb (ws.set a x) ∧ Chg (fun k => k = b ∨ k = bw) w w' := by
  have HR := Lib.hid (fun W => right_b a s W)
  rw [hr] at HR
  have hl := fun W (h : MemAt W b bw bb ws) => len_calls b bw bb ws W h
  have HL := Lib.hid hl
  have HSt := Lib.hid (fun W (h : MemAt W b bw bb ws) => store_calls b bw bb ws a x W h ha (by omega))
  obtain ⟨W1, hW1⟩ : ∃ W1, W1 = w.alloc (.cells #[.int .i64 (a : Int), .int .i64 (s : Int)] 23) := ⟨_, rfl⟩
  have hm1 : MemAt W1 b bw bb ws := by rw [hW1]; exact hm.alloc _
  have hbx : Blk W1 w.heap.size 23 [.int .i64 (a : Int), .int .i64 (s : Int)] := by rw [hW1]; exact blk_new w _ _ _ rfl
  have hc1 : Chg (fun k => k = b ∨ k = bw) w W1 := by rw [hW1]; exact (Chg.refl _ _).alloc _
  have c0 : W1.cell? ⟨w.heap.size, 0, none⟩ = some (.int .i64 a) := hbx.cell 0
  have c1 : W1.cell? ⟨w.heap.size, 1, none⟩ = some (.int .i64 s) := hbx.cell 1
  have HM1 := Lib.hid hm1
  have HC1 := Lib.hid hc1
  have hpos := hm.pos
  have hxs : decide (ws.length ≤ a) = false := by simp; omega
  have hsh : ((x : Int) / 4611686018427387904) = 0 := by omega
  have hp0 : ((ws.length : Int) == 0) = false := by rw [beq_eq_false_iff_ne]; omega
  clear hm hm1 hc1 hl hr hpos ha hx hbx
  generalize ws.length = n at *
  go_enter Try.func10, Try.ntmps10
  go_wp2_with fail
  rw [← hW1]
  clear hW1
  refine (HL.out W1 HM1.out).mono ?_; rintro e w' ⟨rfl, rfl⟩
  go_wp2_with fail
  have HL2 : Hid (∀ W : World, (W.cell? ⟨w.heap.size, 0, none⟩ = some (.int .i64 a) ∧ W.cell? ⟨w.heap.size, 1, none⟩ = some (.int .i64 s)) ∧ Hid (Below W1.heap.size W1 W) → Calls Try.prog 26 #[.pointer (some ⟨b, 0, none⟩)] W fun e w' => e = .returned (.int .i64 n) ∧ W = w') := Lib.hid (fun W h => HL.out W (HM1.out.below h.2.out))
  have HB0 : Hid (Below W1.heap.size W1 W1) := Lib.hid (Below.refl _ _)
  go_region_held3 (fun w' => (w'.cell? ⟨w.heap.size, 0, none⟩ = some (.int .i64 a) ∧ w'.cell? ⟨w.heap.size, 1, none⟩ = some (.int .i64 s)) ∧ Hid (Below W1.heap.size W1 w')) (first | exact ⟨⟨c0, c1⟩, HB0.out.drew⟩ | exact keepS (by assumption) (by assumption) | assumption) (first | (go_at_call 14; refine (HR.out _).mono ?_; rintro e w' ⟨rfl, hb⟩) | (go_at_call 26; refine (HL2.out _ (by assumption)).mono ?_; rintro e w' ⟨rfl, rfl⟩))
  rename_i hh
  obtain ⟨⟨d0, d1⟩, HW⟩ := hh
  go_wp2_with (first | (go_at_call 20; refine (HSt.out _ (HM1.out.below HW.out)).mono ?_; rintro e w' ⟨rfl, hh1, hh2⟩; have HE := Lib.hid (And.intro hh1 hh2); clear hh1 hh2))
  go_ret
  exact ⟨rfl, HE.out.1, (HC1.out.trans ((chg_of_below (fun k => k = b ∨ k = bw) HW.out).trans HE.out.2 (fun _ _ h => h)) (fun _ _ h => h))⟩
end Go.Proofs.Ytobdpieijgiaoaa
