/- Step of a gate's operation. -/
import Derived.Test.YtjmooohhndjmiaaGatS
namespace Go.Proofs.Ytjmooohhndjmiaa
open Go.RowKit Go.Deep
set_option linter.unusedVariables false
set_option linter.unusedSimpArgs false

/-- what Step comes to. -/
def GStep (A M C b bw bb bo : Nat) (o : GOp) (ws : List Nat) (w : World) (e : Ending) (w' : World) : Prop :=
  e = .returned (.bool (decide ((gstep A M C o ws).1.pc = 6))) ∧ Blk w' bo 88 ((gstep A M C o ws).1.cells A M C) ∧ MemAt w' b bw bb (gstep A M C o ws).2 ∧ Chg (fun j => j = b ∨ j = bw ∨ j = bo) w w'
set_option maxHeartbeats 4000000 in
set_option maxRecDepth 100000 in
theorem gop_step (b bw bb bo A M C : Nat) (o : GOp) (ws : List Nat) (w : World) (hb : Blk w bo 88 (o.cells A M C)) (hm : MemAt w b bw bb ws) (hg : GOk A M C) (hi : GIn M o) (hl : A + 1 + M ≤ ws.length ∧ C < ws.length) (hn : bo ≠ b ∧ bo ≠ bw ∧ bo ≠ bb) :
    Calls Try.prog 12 #[.pointer (some ⟨bo, 0, none⟩), .pointer (some ⟨b, 0, none⟩)] w fun e w' => GStep A M C b bw bb bo o ws w e w' := by
  by_cases h6 : o.pc = 6
  · have hd := gdone_calls bo A M C o.kind o.k o.pc o.wd o.v o.code w hb
    rw [h6] at hd
    have HD := Lib.hid hd
    have HF : Hid (GStep A M C b bw bb bo o ws w (.returned (.bool true)) w) := Lib.hid (by
      have e : gstep A M C o ws = (o, ws) := by unfold gstep; rw [if_pos h6]
      unfold GStep
      rw [e]
      exact ⟨by simp [h6], hb, hm, Chg.refl _ _⟩)
    clear hd hb hm hg hi hl hn h6
    go_enter Try.func12, Try.ntmps12
    go_wp2_with fail
    refine HD.out.mono ?_; rintro e w' ⟨rfl, rfl⟩
    go_wp2_with fail
    refine HD.out.mono ?_; rintro e w' ⟨rfl, rfl⟩
    go_wp2
    go_ret
    exact HF.out
  · have h6' : o.pc < 6 := by have := hi.pc.1; omega
    have hd := gdone_calls bo A M C o.kind o.k o.pc o.wd o.v o.code w hb
    rw [show decide (o.pc = 6) = false by simp [h6]] at hd
    have HD := Lib.hid hd
    have HL := Lib.hid (len_calls b bw bb ws w hm)
    have hl0 : ws.length ≠ 0 := by have := hl.2; omega
    have t0 : ((ws.length : Int) == 0) = false := by rw [beq_eq_false_iff_ne]; omega
    have hE : ∀ w', Blk w' bo 88 ((gstep A M C o ws).1.cells A M C) → Calls Try.prog 36 #[.pointer (some ⟨bo, 0, none⟩)] w' fun e w'' => e = .returned (.bool (decide ((gstep A M C o ws).1.pc = 6))) ∧ w' = w'' := fun w' h => gdone_calls bo A M C _ _ _ _ _ _ w' h
    have HE := Lib.hid hE
    have HJ := fun h => Lib.hid (gjoin_step b bw bb bo A M C o ws w hb hm hg hi hl hn h h6')
    have HV := fun h => Lib.hid (gleave_step b bw bb bo A M C o ws w hb hm hg hi hl hn h h6')
    have HT := fun h => Lib.hid (gleast_step b bw bb bo A M C o ws w hb hm hg hi hl hn h h6')
    have hk := hi.kd
    obtain ⟨y0, y1, y2, y3, y4, _⟩ := g_cells hb
    obtain ⟨kd, hkd⟩ : ∃ x, o.kind = x := ⟨_, rfl⟩
    rw [hkd] at hk y4 HJ HV HT
    have HK := Lib.hid hk
    clear hd hb hm hg hi hl hn h6 h6' hE hl0 hkd hk
    unfold GStep
    unfold GPost at HJ HV HT
    rcases (show kd = 0 ∨ kd = 1 ∨ kd = 2 by have := HK.out; omega) with rfl | rfl | rfl
    · have HX := HJ rfl
      clear HJ HV HT HK
      generalize gstep A M C o ws = r at HE HX ⊢
      go_enter Try.func12, Try.ntmps12
      go_wp2_with fail
      refine HD.out.mono ?_; rintro e w' ⟨rfl, rfl⟩
      go_wp2_with fail
      refine HL.out.mono ?_; rintro e w' ⟨rfl, rfl⟩
      go_wp2_with fail
      refine HX.out.mono ?_; rintro e w2 ⟨rfl, h1, h2, h3⟩
      have HF := Lib.hid (And.intro h1 (And.intro h2 h3))
      clear h1 h2 h3 y0 y1 y2 y3 y4
      go_wp2_with fail
      refine (HE.out _ HF.out.1).mono ?_; rintro e w' ⟨rfl, rfl⟩
      go_wp2
      go_ret
      exact ⟨rfl, HF.out⟩
    · have HX := HV rfl
      clear HJ HV HT HK
      generalize gstep A M C o ws = r at HE HX ⊢
      go_enter Try.func12, Try.ntmps12
      go_wp2_with fail
      refine HD.out.mono ?_; rintro e w' ⟨rfl, rfl⟩
      go_wp2_with fail
      refine HL.out.mono ?_; rintro e w' ⟨rfl, rfl⟩
      go_wp2_with fail
      refine HX.out.mono ?_; rintro e w2 ⟨rfl, h1, h2, h3⟩
      have HF := Lib.hid (And.intro h1 (And.intro h2 h3))
      clear h1 h2 h3 y0 y1 y2 y3 y4
      go_wp2_with fail
      refine (HE.out _ HF.out.1).mono ?_; rintro e w' ⟨rfl, rfl⟩
      go_wp2
      go_ret
      exact ⟨rfl, HF.out⟩
    · have HX := HT rfl
      clear HJ HV HT HK
      generalize gstep A M C o ws = r at HE HX ⊢
      go_enter Try.func12, Try.ntmps12
      go_wp2_with fail
      refine HD.out.mono ?_; rintro e w' ⟨rfl, rfl⟩
      go_wp2_with fail
      refine HL.out.mono ?_; rintro e w' ⟨rfl, rfl⟩
      go_wp2_with fail
      refine HX.out.mono ?_; rintro e w2 ⟨rfl, h1, h2, h3⟩
      have HF := Lib.hid (And.intro h1 (And.intro h2 h3))
      clear h1 h2 h3 y0 y1 y2 y3 y4
      go_wp2_with fail
      refine (HE.out _ HF.out.1).mono ?_; rintro e w' ⟨rfl, rfl⟩
      go_wp2
      go_ret
      exact ⟨rfl, HF.out⟩
end Go.Proofs.Ytjmooohhndjmiaa
