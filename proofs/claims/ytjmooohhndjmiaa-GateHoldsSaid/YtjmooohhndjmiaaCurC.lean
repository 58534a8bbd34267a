/- contracts of package cursor: Claim, Tell, Setup. -/
import Derived.Test.YtjmooohhndjmiaaCurB
namespace Go.Proofs.Ytjmooohhndjmiaa
open Go.RowKit Go.Deep
set_option maxRecDepth 100000

theorem Begun.later {w W w' : World} {A S M : Int} {cs : List Value} {n : Nat} {g : Bool} {e : Ending} (h : Begun W w' A S M cs n g e) (hb : Below w.heap.size w W) : Begun w w' A S M cs n g e := by
  obtain ⟨bo, bwd, h1, h2, h3, h4, h5, h6, h7⟩ := h
  have := hb.size
  exact ⟨bo, bwd, h1, h2, h3, by omega, by omega, h6, bseq hb h7⟩
theorem Begun.ended {w w' w2 : World} {A S M : Int} {cs : List Value} {n : Nat} {bo bwd : Nat} (h2 : Blk w2 bo 104 (opCells A S M bwd n 3 0 0 0 2)) (hc : Chg (fun k => k = bo) w' w2) (h3 : Blk w' bwd 3 cs) (h4 : w.heap.size ≤ bo) (h5 : w.heap.size ≤ bwd) (h6 : bo ≠ bwd) (h7 : Below w.heap.size w w') :
    Begun w w2 A S M cs n false (.returned (.pointer (some ⟨bo, 0, none⟩))) :=
  ⟨bo, bwd, rfl, h2, h3.chg hc (fun e => h6 e.symm), h4, h5, h6, Chg.below h7 hc h7.size (fun k hk => by subst hk; exact h4)⟩

set_option maxHeartbeats 1000000 in
theorem claim_calls (A S M : Int) (sp : Option Addr) (sCap : Nat) (l : List Int) (w : World) (hl : l.length ≤ 1048576)
    (hpos : 0 < l.length → ∃ ad, sp = some ad ∧ ∀ j v, (intVals l)[j]? = some v → w.cell? (ad.add j) = some v) :
    Calls Try.prog 47 #[.agg #[.int .i64 A, .int .i64 S], .int .i64 M, .slice sp l.length sCap] w fun e w' => Begun w w' A S M (intVals l) l.length (okB A S M l.length && decide (1 ≤ M)) e := by
  have hb := begin_calls A S M sp sCap l (w.alloc (.cells #[.int .i64 A, .int .i64 S] 95)) hl (fun h => by
    obtain ⟨ad, h1, h2⟩ := hpos h
    exact ⟨ad, h1, fun j v hv => kalloc _ (h2 j v hv)⟩)
  have HB := Lib.hid hb
  clear hb hpos hl
  generalize intVals l = cs at *
  generalize l.length = n at *
  obtain ⟨g, hg⟩ : ∃ g, okB A S M n = g := ⟨_, rfl⟩
  rw [hg] at HB ⊢
  clear hg
  obtain ⟨t, ht⟩ : ∃ t, decide (1 ≤ M) = t := ⟨_, rfl⟩
  rw [ht]
  have t1 : decide (M < 1) = !t := by rw [← ht]; by_cases h : 1 ≤ M <;> simp [h] <;> omega
  clear ht
  cases t
  · rw [Bool.not_false] at t1
    rw [Bool.and_false]
    go_enter Try.func47, Try.ntmps47
    go_wp2_with (first
      | (go_at_call 59
         refine HB.out.mono ?_
         intro e w' HBg
         obtain ⟨bo, bwd, rfl, f2, f3, f4, f5, f6, f7⟩ := HBg
         have F2 := Lib.hid f2; have F3 := Lib.hid f3; have F4 := Lib.hid f4; have F5 := Lib.hid f5; have F6 := Lib.hid f6; have F7 := Lib.hid f7
         clear f2 f3 f4 f5 f6 f7)
      | (go_at_call 60; refine (end_calls _ A S M _ n _ 0 0 0 _ 2 0 _ F2.out).mono ?_; rintro e w4 ⟨rfl, HE⟩; have HE := Lib.hid HE))
    go_ret
    exact (Begun.ended HE.out.1 HE.out.2 F3.out F4.out F5.out F6.out F7.out).later (bnew (Below.refl _ _) _)
  · rw [Bool.not_true] at t1
    rw [Bool.and_true]
    go_enter Try.func47, Try.ntmps47
    go_wp2_with (first | (go_at_call 59; refine HB.out.mono ?_; intro e w' HBg; have HBg := Lib.hid HBg; obtain ⟨bo, he⟩ : ∃ bo, e = .returned (.pointer (some ⟨bo, 0, none⟩)) := (by obtain ⟨bo, _, he, _⟩ := HBg.out; exact ⟨bo, he⟩); subst he))
    go_ret
    exact HBg.out.later (bnew (Below.refl _ _) _)

/-- what Setup keeps. -/
def KeptS (W1 : World) (g : Nat) (a s : Int) (W : World) : Prop := (W.cell? ⟨g, 0, none⟩ = some (.int .i64 a) ∧ W.cell? ⟨g, 1, none⟩ = some (.int .i64 s)) ∧ Hid (Below W1.heap.size W1 W)
theorem keepS {W1 W W' : World} {g : Nat} {a s : Int} (h : (W.cell? ⟨g, 0, none⟩ = some (.int .i64 a) ∧ W.cell? ⟨g, 1, none⟩ = some (.int .i64 s)) ∧ Hid (Below W1.heap.size W1 W)) (hb : Below W.heap.size W W') : (W'.cell? ⟨g, 0, none⟩ = some (.int .i64 a) ∧ W'.cell? ⟨g, 1, none⟩ = some (.int .i64 s)) ∧ Hid (Below W1.heap.size W1 W') :=
  ⟨⟨kcell hb h.1.1, kcell hb h.1.2⟩, Lib.hid (bseq h.2.out hb)⟩
theorem right_b (A S : Int) (w : World) :
    Calls Try.prog 66 #[.agg #[.int .i64 A, .int .i64 S]] w fun e w' => e = .returned (.bool (rightC A S)) ∧ Below w.heap.size w w' :=
  (right_calls A S w).mono fun _ _ ⟨h, h'⟩ => ⟨h, by subst h'; exact bnew (Below.refl _ _) _⟩

end Go.Proofs.Ytjmooohhndjmiaa
