/- a claim of one position, held back by the word that joined: the law's claim. -/
import Derived.Test.YtjmooohhndjmiaaCurE
import Derived.Test.YtjmooohhndjmiaaGatV
import Derived.LoopN
namespace Go.Proofs.Ytjmooohhndjmiaa
open Go.RowKit Go.Deep
set_option linter.unusedVariables false
set_option linter.unusedSimpArgs false

theorem pop4 : rightC 0 4 = true := by decide +kernel
/-- what is told: it is held back, or the position is below by less than four. -/
def HClaim (b bw bb x : Nat) (w : World) (e : Ending) (w' : World) : Prop :=
  ∃ (a p n : Nat) (ws : List Nat), e = .returned (.tuple #[.int .i64 (a : Nat), .int .u64 (p : Nat), .int .i64 (n : Nat)]) ∧ (a = 15 ∨ p < x + 4) ∧ MemAt w' b bw bb ws ∧ Chg (fun k => k = b ∨ k = bw) w w'
/-- one step of it, behind the world w. -/
theorem hc_step {w w1 : World} {b bw bb bo bwd : Nat} {ws : List Nat} {o : NOp} (h : OpAt w1 bo bwd o ∧ MemAt w1 b bw bb ws ∧ Chg (fun k => k = b ∨ k = bw) w w1) (hn : bo ≠ b ∧ bo ≠ bw ∧ bo ≠ bb ∧ bwd ≠ b ∧ bwd ≠ bw ∧ bo ≠ bwd ∧ w.heap.size ≤ bo) (hk : NOk o ws.length) (o' : NOp) (ws' : List Nat) (hs : stepN o ws = (o', ws')) :
    Calls Try.prog 49 #[.pointer (some ⟨bo, 0, none⟩), .pointer (some ⟨b, 0, none⟩)] w1 fun e w' => e = .returned (.bool (decide (o'.pc = 3))) ∧ (OpAt w' bo bwd o' ∧ MemAt w' b bw bb ws' ∧ Chg (fun k => k = b ∨ k = bw) w w') := by
  have := step_calls bo bwd o b bw bb ws w1 h.1 h.2.1 hk hn.1 hn.2.1 hn.2.2.1 hn.2.2.2.1 hn.2.2.2.2.1 hn.2.2.2.2.2.1
  rw [hs] at this
  exact this.mono fun e w' ⟨g1, g2, g3, g4⟩ => ⟨g1, g2, g3, h.2.2.trans g4 (fun j hj hj2 => by rcases hj2 with rfl | rfl | rfl; exact .inl rfl; exact .inr rfl; have := hn.2.2.2.2.2.2; omega)⟩
theorem hc_done {w : World} {bo bwd : Nat} {o : NOp} (ho : OpAt w bo bwd o) :
    Calls Try.prog 48 #[.pointer (some ⟨bo, 0, none⟩)] w fun e w' => e = .returned (.bool (decide (o.pc = 3))) ∧ w = w' :=
  done_calls bo o.a o.s o.m bwd o.words.length o.pc o.k o.p o.g o.code w ho.1
theorem hc_result {w : World} {bo bwd : Nat} {o : NOp} (ho : OpAt w bo bwd o) :
    Calls Try.prog 50 #[.pointer (some ⟨bo, 0, none⟩)] w fun e w' => e = .returned (.tuple #[.int .i64 (if o.pc = 3 then o.code else 0 : Nat), .int .u64 (if o.pc = 3 then o.p else 0 : Nat)]) ∧ Below w.heap.size w w' :=
  result_calls bo o.a o.s o.m bwd o.words.length o.pc o.k o.p o.g o.code w ho.1
theorem hc_begin {w w1 : World} {b bw bb : Nat} {ws : List Nat} (sp : Option Addr) (h : MemAt w1 b bw bb ws ∧ Chg (fun k => k = b ∨ k = bw) w w1)
    (hpos : ∃ ad, sp = some ad ∧ ∀ j v, (intVals [(3 : Int)])[j]? = some v → w1.cell? (ad.add j) = some v) :
    Calls Try.prog 47 #[.agg #[.int .i64 0, .int .i64 4], .int .i64 1, .slice sp 1 1] w1 fun e w' => ∃ bo bwd, e = .returned (.pointer (some ⟨bo, 0, none⟩)) ∧
      ((OpAt w' bo bwd ⟨0, 4, 1, [3], 0, 0, 0, 0, 0⟩ ∧ MemAt w' b bw bb ws ∧ Chg (fun k => k = b ∨ k = bw) w w') ∧ bo ≠ b ∧ bo ≠ bw ∧ bo ≠ bb ∧ bwd ≠ b ∧ bwd ≠ bw ∧ bo ≠ bwd ∧ w.heap.size ≤ bo) := by
  have hc := claim_calls 0 4 1 sp 1 [3] w1 (by simp) (fun _ => hpos)
  have hok : (okB 0 4 1 [(3 : Int)].length && decide (1 ≤ (1 : Int))) = true := by unfold okB; rw [pop4]; decide
  rw [hok] at hc
  refine hc.mono fun e w' hg => ?_
  obtain ⟨bo, bwd, h1, h2, h3, h4, h5, h6, h7⟩ := hg
  obtain ⟨l1, l2, l3⟩ := h.1.lt
  have := h.2.size
  exact ⟨bo, bwd, h1, ⟨⟨h2, h3⟩, h.1.below h7, h.2.trans (chg_of_below (fun k => k = b ∨ k = bw) h7) (fun _ _ h => h)⟩, by omega, by omega, by omega, by omega, by omega, h6, by omega⟩
set_option maxHeartbeats 4000000 in
set_option maxRecDepth 100000 in
theorem hclaim_calls (b bw bb c m x : Nat) (w : World) (hm : MemAt w b bw bb [c, m, 0, x]) (hc : c < 1000) :
    Calls Try.prog 24 #[.pointer (some ⟨b, 0, none⟩), .agg #[.int .i64 1, .int .i64 2, .int .i64 0]] w fun e w' => HClaim b bw bb x w e w' := by
  have H0 := Lib.hid (And.intro (hm.alloc (Obj.cells #[.int .i64 1, .int .i64 2, .int .i64 0] 25)) ((Chg.refl (fun k => k = b ∨ k = bw) w).alloc (Obj.cells #[.int .i64 1, .int .i64 2, .int .i64 0] 25)))
  have hx := hm.getD_lt 3
  have HX : Hid (x < 18446744073709551616) := Lib.hid hx
  have HC := Lib.hid hc
  clear hm hx hc
  go_enter Try.func24, Try.ntmps24
  go_wp2_with fail
  generalize w.alloc (Obj.cells #[.int .i64 1, .int .i64 2, .int .i64 0] 25) = w1 at H0 ⊢
  refine (gword_calls 1 2 0 1 _ ⟨by decide, by decide, by decide, by decide⟩ (by decide)).mono ?_; rintro e w2 ⟨he, hb⟩
  obtain rfl : e = .returned (.int .i64 3) := he
  have H2 := Lib.hid (And.intro ((H0.out.1.below hb).alloc (.cells #[.int .i64 3] 3)) ((H0.out.2.trans (chg_of_below (fun k => k = b ∨ k = bw) hb) (fun _ _ h => h)).alloc (.cells #[.int .i64 3] 3)))
  have HS0 : Hid (∃ ad, (some (⟨w2.heap.size, 0, none⟩ : Addr)) = some ad ∧ ∀ j v, (intVals [(3 : Int)])[j]? = some v → (w2.alloc (.cells #[.int .i64 3] 3)).cell? (ad.add j) = some v) := Lib.hid ⟨_, rfl, fun j v hv => by
    have hbk := blk_new w2 3 #[.int .i64 3] [.int .i64 3] rfl
    rw [add_none, hbk.cell]
    simpa [intVals] using hv⟩
  clear hb H0
  go_wp2_with fail
  refine (hc_begin (w := w) _ H2.out HS0.out).mono ?_; rintro e w3 ⟨bo, bwd, rfl, h3, hn⟩
  have H3 := Lib.hid h3
  have HN := Lib.hid hn
  clear h3 hn H2 HS0
  go_wp2_with fail
  refine wp_loop_rounds 4 ?_
  rw [rounds_succ]
  go_wp2_with fail
  refine (hc_done H3.out.1).mono ?_; rintro e w' ⟨he, rfl⟩
  obtain rfl : e = .returned (.bool false) := he
  go_wp2_with fail
  refine (hc_step H3.out HN.out ⟨by simp, by decide, by decide, by simp, by simp, by decide, by decide, fun h => by simp at h, by decide⟩ ⟨0, 4, 1, [3], 1, 0, c, 0, 0⟩ [c, m, 0, x] rfl).mono ?_; rintro e w4 ⟨rfl, hh⟩
  have H4 := Lib.hid hh
  clear hh
  go_wp2_with fail
  by_cases hh : heldN 4 1 c x = true
  · have hst : stepN ⟨0, 4, 1, [3], 1, 0, c, 0, 0⟩ [c, m, 0, x] = (⟨0, 4, 1, [3], 3, 1, 0, x, 15⟩, [c, m, 0, x]) := by
      have e : askG 0 x 0 = x := rfl
      simp [stepN, e, hh]
    have HST := Lib.hid hst
    clear hst hh
    rw [rounds_succ]
    go_wp2_with fail
    refine (hc_done H4.out.1).mono ?_; rintro e w' ⟨he, rfl⟩
    obtain rfl : e = .returned (.bool false) := he
    go_wp2_with fail
    refine (hc_step H4.out HN.out ⟨by simp, Nat.le_of_ble_eq_true rfl, Nat.le_of_ble_eq_true rfl, by simp, by simp, by show c < 18446744073709551616; have := HC.out; omega, (by show 0 < 18446744073709551616; decide), fun _ => by show 0 < 1; decide, by show 1 ≤ 3; decide⟩ ⟨0, 4, 1, [3], 3, 1, 0, x, 15⟩ [c, m, 0, x] HST.out).mono ?_; rintro e w5 ⟨rfl, hh⟩
    have H5 := Lib.hid hh
    clear hh
    go_wp2_with fail
    rw [rounds_succ]
    go_wp2_with fail
    refine (hc_done H5.out.1).mono ?_; rintro e w' ⟨he, rfl⟩
    obtain rfl : e = .returned (.bool true) := he
    go_wp2_with fail
    refine (hc_result H5.out.1).mono ?_; rintro e wz ⟨he, hb⟩
    obtain rfl : e = .returned (.tuple #[.int .i64 15, .int .u64 0]) := he
    have HF : Hid (HClaim b bw bb x w (.returned (.tuple #[.int .i64 15, .int .u64 0, .int .i64 2])) wz) := Lib.hid ⟨15, 0, 2, _, rfl, .inl rfl, H5.out.2.1.below hb, H5.out.2.2.trans (chg_of_below (fun k => k = b ∨ k = bw) hb) (fun _ _ h => h)⟩
    clear hb
    go_wp2
    refine bodyPost_ret (v := .tuple #[.int .i64 15, .int .u64 0, .int .i64 2]) (by simp [results, Try.results24, go_sem]) rfl HF.out
  · have hst : stepN ⟨0, 4, 1, [3], 1, 0, c, 0, 0⟩ [c, m, 0, x] = (⟨0, 4, 1, [3], 2, 1, c, x, 0⟩, [c, m, 0, x]) := by
      have e : askG 0 x 0 = x := rfl
      simp [stepN, e, hh]
    have HST := Lib.hid hst
    have HH : Hid (c < x + 4) := Lib.hid (by
      unfold heldN at hh
      simp at hh
      omega)
    clear hst hh
    rw [rounds_succ]
    go_wp2_with fail
    refine (hc_done H4.out.1).mono ?_; rintro e w' ⟨he, rfl⟩
    obtain rfl : e = .returned (.bool false) := he
    go_wp2_with fail
    refine (hc_step H4.out HN.out ⟨by simp, Nat.le_of_ble_eq_true rfl, Nat.le_of_ble_eq_true rfl, by simp, by simp, by show c < 18446744073709551616; have := HC.out; omega, (by show 0 < 18446744073709551616; decide), fun _ => by show 0 < 1; decide, by show 1 ≤ 3; decide⟩ ⟨0, 4, 1, [3], 2, 1, c, x, 0⟩ [c, m, 0, x] HST.out).mono ?_; rintro e w5 ⟨rfl, hh⟩
    have H5 := Lib.hid hh
    clear hh
    go_wp2_with fail
    have HST2 : Hid (stepN ⟨0, 4, 1, [3], 2, 1, c, x, 0⟩ [c, m, 0, x] = (⟨0, 4, 1, [3], 3, 1, c, x, 0⟩, [(c + 1) % 18446744073709551616, m, 0, x])) := Lib.hid (by simp [stepN])
    rw [rounds_succ]
    go_wp2_with fail
    refine (hc_done H5.out.1).mono ?_; rintro e w' ⟨he, rfl⟩
    obtain rfl : e = .returned (.bool false) := he
    go_wp2_with fail
    refine (hc_step H5.out HN.out ⟨by simp, Nat.le_of_ble_eq_true rfl, Nat.le_of_ble_eq_true rfl, by simp, by simp, by show c < 18446744073709551616; have := HC.out; omega, by show x < 18446744073709551616; exact HX.out, fun h => by simp at h, by show 2 ≤ 3; decide⟩ ⟨0, 4, 1, [3], 3, 1, c, x, 0⟩ [(c + 1) % 18446744073709551616, m, 0, x] HST2.out).mono ?_; rintro e w6 ⟨rfl, hh⟩
    have H6 := Lib.hid hh
    clear hh
    go_wp2_with fail
    rw [rounds_succ]
    go_wp2_with fail
    refine (hc_done H6.out.1).mono ?_; rintro e w' ⟨he, rfl⟩
    obtain rfl : e = .returned (.bool true) := he
    go_wp2_with fail
    refine (hc_result H6.out.1).mono ?_; rintro e wz ⟨he, hb⟩
    obtain rfl : e = .returned (.tuple #[.int .i64 0, .int .u64 (c : Nat)]) := he
    have HF : Hid (HClaim b bw bb x w (.returned (.tuple #[.int .i64 0, .int .u64 (c : Nat), .int .i64 3])) wz) := Lib.hid ⟨0, c, 3, _, rfl, .inr HH.out, H6.out.2.1.below hb, H6.out.2.2.trans (chg_of_below (fun k => k = b ∨ k = bw) hb) (fun _ _ h => h)⟩
    clear hb
    go_wp2
    refine bodyPost_ret (v := .tuple #[.int .i64 0, .int .u64 (c : Nat), .int .i64 3]) (by simp [results, Try.results24, go_sem]) rfl HF.out
end Go.Proofs.Ytjmooohhndjmiaa
