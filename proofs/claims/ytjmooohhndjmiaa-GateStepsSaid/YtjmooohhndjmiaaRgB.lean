/- the reference's gate (sluicewayref19): bit, next, end. -/
import Derived.Test.YtjmooohhndjmiaaGatM
import Derived.Test.YtjmooohhndjmiaaRefS
import Derived.Deep.LoopGhost
namespace Go.Proofs.Ytjmooohhndjmiaa
open Go.RowKit Go.Deep
set_option linter.unusedVariables false
set_option linter.unusedSimpArgs false

theorem rbit_calls (k : Nat) (w : World) (hk : k < 8) : Calls Try.prog 33 #[.int .i64 k] w fun e w' => e = .returned (.int .u64 (2 ^ k : Nat)) ∧ w = w' := by
  have hk' : k = 0 ∨ k = 1 ∨ k = 2 ∨ k = 3 ∨ k = 4 ∨ k = 5 ∨ k = 6 ∨ k = 7 := by omega
  rcases hk' with rfl | rfl | rfl | rfl | rfl | rfl | rfl | rfl
  all_goals
    go_enter Try.func33, Try.ntmps33
    go_wp2
    go_ret
    exact ⟨by rfl, rfl⟩
theorem div_bit (m k : Nat) (hm : m < 18446744073709551616) : ((IntKind.u64.wrap ((m : Int) / ((2 ^ k : Nat) : Int))).tmod 2 == 1) = m.testBit k := by
  have h1 : (m : Int) / ((2 ^ k : Nat) : Int) = ((m / 2 ^ k : Nat) : Int) := by rw [Int.natCast_ediv]
  have h2 : m / 2 ^ k ≤ m := Nat.div_le_self _ _
  have h3 : IntKind.u64.wrap ((m / 2 ^ k : Nat) : Int) = ((m / 2 ^ k : Nat) : Int) := by
    obtain ⟨q, hq⟩ : ∃ q, m / 2 ^ k = q := ⟨_, rfl⟩
    rw [hq, IntKind.wrap_u64]
    omega
  rw [h1, h3, show ((m / 2 ^ k : Nat) : Int).tmod 2 = ((m / 2 ^ k % 2 : Nat) : Int) from rfl, Nat.testBit_eq_decide_div_mod_eq, Bool.eq_iff_iff]
  simp only [beq_iff_eq, decide_eq_true_eq]
  omega
/-- the least bit that is set, from j on; -1: there is none. -/
def rnext (m from' : Nat) : Int := if nextD m (8 - from') from' < 8 then (nextD m (8 - from') from' : Nat) else -1
set_option maxHeartbeats 4000000 in
set_option maxRecDepth 100000 in
theorem rnext_calls (m j : Nat) (w : World) (hj : j ≤ 8) (hm : m < 18446744073709551616) : Calls Try.prog 35 #[.int .u64 m, .int .i64 j] w fun e w' => e = .returned (.int .i64 (rnext m j)) ∧ w = w' := by
  have HB := Lib.hid (fun k hk => rbit_calls k w hk)
  obtain ⟨R, hR⟩ : ∃ R, rnext m j = R := ⟨_, rfl⟩
  rw [hR]
  have HR := Lib.hid hR
  clear hR
  go_enter Try.func35, Try.ntmps35
  go_wp2_with fail
  go_loopg [5] (8 - j) (fun g i wr => ∃ k : Nat, j ≤ k ∧ k ≤ 8 ∧ g = 8 - k ∧ i = .int .i64 k ∧ wr = w ∧ Hid (nextD m (8 - j) j = nextD m (8 - k) k))
  case atStart => exact ⟨j, Nat.le_refl _, hj, rfl, rfl, rfl, Lib.hid rfl⟩
  case round =>
    obtain ⟨k, hk1, hk2, rfl, rfl, rfl, HN⟩ := hrel
    by_cases hlt : k < 8
    · have k8 : (k : Int) < 8 := by omega
      have hb := HB.out k hlt
      have hd := div_bit m k hm
      have hp : (2 ^ k : Nat) ≠ 0 := by have := Nat.two_pow_pos k; omega
      have hp2 : 2 ^ k < 18446744073709551616 := Nat.pow_lt_pow_right (by decide) (show k < 64 by omega)
      obtain ⟨p, hpp⟩ : ∃ p : Nat, 2 ^ k = p := ⟨_, rfl⟩
      rw [hpp] at hb hd hp hp2
      have HBK := Lib.hid hb
      have hp0 : ¬ (p : Int) = 0 := by omega
      obtain ⟨f, hf⟩ : ∃ f, 8 - k = f + 1 := ⟨7 - k, by omega⟩
      have hst : nextD m (8 - k) k = if m.testBit k then k else nextD m (8 - (k + 1)) (k + 1) := by
        rw [hf, show 8 - (k + 1) = f by omega]; rfl
      have HST := Lib.hid hst
      clear hb hpp hp hst hf
      cases ht : m.testBit k
      · rw [ht] at hd
        have HN2 : Hid (nextD m (8 - j) j = nextD m (8 - (k + 1)) (k + 1)) := Lib.hid (by rw [HN.out, HST.out, ht]; rfl)
        clear HST HN ht
        go_wp2_with fail
        refine HBK.out.mono ?_; rintro e w' ⟨rfl, rfl⟩
        go_wp2
        go_roundg (8 - (k + 1))
        case measure => omega
        case rel => exact ⟨k + 1, by omega, by omega, rfl, by go_num, rfl, HN2⟩
      · rw [ht] at hd
        have HF : Hid (R = (k : Int)) := Lib.hid (by rw [← HR.out]; unfold rnext; rw [HN.out, HST.out, ht, if_pos rfl, if_pos hlt])
        clear HST HN ht
        go_wp2_with fail
        refine HBK.out.mono ?_; rintro e w' ⟨rfl, rfl⟩
        go_wp2
        go_ret
        exact ⟨by rw [HF.out]; rfl, rfl⟩
    · obtain rfl : k = 8 := by omega
      have HF : Hid (R = -1) := Lib.hid (by
        rw [← HR.out]; unfold rnext; rw [HN.out, if_neg]; show ¬ (8 < 8); decide)
      clear HN
      go_wp2
      go_ret
      exact ⟨by rw [HF.out]; rfl, rfl⟩
theorem set8 {w : World} {b : Nat} {t : TypeId} {u0 u1 u2 u3 u4 u5 u6 u7 : Value} (h : Blk w b t [u0, u1, u2, u3, u4, u5, u6, u7]) (v0 v1 v2 v3 v4 v5 v6 v7 : Value) :
    Blk ((((((((w.setCell ⟨b, 0, none⟩ v0).setCell ⟨b, 1, none⟩ v1).setCell ⟨b, 2, none⟩ v2).setCell ⟨b, 3, none⟩ v3).setCell ⟨b, 4, none⟩ v4).setCell ⟨b, 5, none⟩ v5).setCell ⟨b, 6, none⟩ v6).setCell ⟨b, 7, none⟩ v7) b t [v0, v1, v2, v3, v4, v5, v6, v7] ∧ Chg (fun j => j = b) w ((((((((w.setCell ⟨b, 0, none⟩ v0).setCell ⟨b, 1, none⟩ v1).setCell ⟨b, 2, none⟩ v2).setCell ⟨b, 3, none⟩ v3).setCell ⟨b, 4, none⟩ v4).setCell ⟨b, 5, none⟩ v5).setCell ⟨b, 6, none⟩ v6).setCell ⟨b, 7, none⟩ v7) := by
  constructor
  · exact (((((((h.set 0 v0).set 1 v1).set 2 v2).set 3 v3).set 4 v4).set 5 v5).set 6 v6).set 7 v7
  · have step : ∀ (W : World) (i : Nat) (v : Value), Chg (fun j => j = b) w W → Chg (fun j => j = b) w (W.setCell ⟨b, i, none⟩ v) := fun W i v hc => hc.setCell ⟨b, i, none⟩ v (fun _ => rfl)
    exact step _ 7 _ (step _ 6 _ (step _ 5 _ (step _ 4 _ (step _ 3 _ (step _ 2 _ (step _ 1 _ (step _ 0 _ (Chg.refl _ _))))))))
set_option maxHeartbeats 4000000 in
set_option maxRecDepth 100000 in
theorem rend_calls (kd at' cu k pc w0 v0 c0 code v : Int) (w : World) :
    Calls Try.prog 34 #[.agg #[.int .i64 kd, .int .i64 at', .int .i64 cu, .int .i64 k, .int .i64 pc, .int .u64 w0, .int .u64 v0, .int .i64 c0], .int .i64 code, .int .u64 v] w fun e w' => e = .returned (.agg #[.int .i64 kd, .int .i64 at', .int .i64 cu, .int .i64 k, .int .i64 6, .int .u64 w0, .int .u64 v, .int .i64 code]) ∧ Below w.heap.size w w' := by
  go_enter Try.func34, Try.ntmps34
  go_wp2
  refine bodyPost_ret (v := .agg #[.int .i64 kd, .int .i64 at', .int .i64 cu, .int .i64 k, .int .i64 6, .int .u64 w0, .int .u64 v, .int .i64 code]) (by simp [results, Try.results34, go_sem]) rfl ⟨rfl, ?_⟩
  exact bnew (bnew (Below.refl _ _) _) _
end Go.Proofs.Ytjmooohhndjmiaa
