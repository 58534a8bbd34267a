/- contracts of Entry.Clean, right, Entry.Right. -/
import Derived.Test.YtgfingdopelinaaScF1
import Derived.Test.YtgfingdopelinaaScC
import Derived.RegionTactic
import Derived.ChangeAlike
import Derived.BigRegion
namespace Go.Proofs.Ytgfingdopelinaa
set_option linter.unusedSimpArgs false
set_option linter.unusedVariables false
open Go.RowKit Go.Deep

theorem within_calls (v a b : Int) (w : World) : Calls Try.prog 24 #[.int .i64 v, .int .i64 a, .int .i64 b] w fun e w' => e = .returned (.bool (inB v a b)) ∧ w = w' := by
  by_cases h1 : a ≤ v
  · by_cases h2 : v ≤ b
    · have hb : inB v a b = true := inB_true.2 ⟨h1, h2⟩
      go_enter Try.func24, Try.ntmps24
      go_wp2
      go_ret
      exact ⟨by first | rfl | (rw [hb]; rfl), rfl⟩
    · have hb : inB v a b = false := inB_false.2 (by omega)
      go_enter Try.func24, Try.ntmps24
      go_wp2
      go_ret
      exact ⟨by first | rfl | (rw [hb]; rfl), rfl⟩
  · have hb : inB v a b = false := inB_false.2 (by omega)
    go_enter Try.func24, Try.ntmps24
    go_wp2
    go_ret
    exact ⟨by first | rfl | (rw [hb]; rfl), rfl⟩

def En.clean (e : En) : En :=
  if e.pick then { enZero with thread := e.thread, pick := true }
  else if e.kind = 0 then { enZero with thread := e.thread, kind := e.kind, topic := e.topic, mode := e.mode, text := e.text }
  else if e.kind = 4 then { enZero with thread := e.thread, kind := e.kind, topic := e.topic, gk := e.gk, gen := e.gen, pos := e.pos }
  else if e.kind = 2 ∨ e.kind = 3 then { enZero with thread := e.thread, kind := e.kind, topic := e.topic, gk := e.gk, gen := e.gen }
  else { enZero with thread := e.thread, kind := e.kind, topic := e.topic }
set_option maxRecDepth 100000 in
set_option maxHeartbeats 4000000 in
theorem clean_pick (th : Int) (pk : Bool) (kd tp gk : Int) (gn : Nat) (md : Int) (tx : ByteArray) (ps : Nat) (w : World) (hp : pk = true) :
    Calls Try.prog 18 #[(En.mk th pk kd tp gk gn md tx ps).val] w fun e w' => e = .returned (En.mk th pk kd tp gk gn md tx ps).clean.val ∧ Below w.heap.size w w' := by
  have hre : (En.mk th pk kd tp gk gn md tx ps).clean.val = .agg #[.int .i64 th, .bool true, .int .i64 0, .int .i64 0, .int .i64 0, .int .u64 0, .int .i64 0, .string noText, .int .u64 0] := by unfold En.clean; simp [hp, enZero]; try rfl
  rw [hre]
  unfold En.val
  dsimp only
  subst hp
  go_enter Try.func18, Try.ntmps18
  go_wp2
  refine bodyPost_ret (v := .agg #[.int .i64 th, .bool true, .int .i64 0, .int .i64 0, .int .i64 0, .int .u64 0, .int .i64 0, .string noText, .int .u64 0]) (by simp [results, Try.results18, go_sem]) rfl ⟨rfl, ?_⟩
  exact bnew (bnew (Below.refl _ _) _) _
set_option maxRecDepth 100000 in
set_option maxHeartbeats 4000000 in
theorem clean_2 (th : Int) (pk : Bool) (kd tp gk : Int) (gn : Nat) (md : Int) (tx : ByteArray) (ps : Nat) (w : World) (hp : pk = false) (hk : kd = 2) :
    Calls Try.prog 18 #[(En.mk th pk kd tp gk gn md tx ps).val] w fun e w' => e = .returned (En.mk th pk kd tp gk gn md tx ps).clean.val ∧ Below w.heap.size w w' := by
  have hre : (En.mk th pk kd tp gk gn md tx ps).clean.val = .agg #[.int .i64 th, .bool false, .int .i64 kd, .int .i64 tp, .int .i64 gk, .int .u64 gn, .int .i64 0, .string noText, .int .u64 0] := by unfold En.clean; simp [hp, hk, enZero]; try rfl
  rw [hre]
  unfold En.val
  dsimp only
  subst hp
  have t_2 : (kd == 2) = true := by rw [beq_iff_eq]; omega
  have t_0 : (kd == 0) = false := by rw [beq_eq_false_iff_ne]; omega
  have t_4 : (kd == 4) = false := by rw [beq_eq_false_iff_ne]; omega
  clear hk hre
  go_enter Try.func18, Try.ntmps18
  go_wp2
  refine bodyPost_ret (v := .agg #[.int .i64 th, .bool false, .int .i64 kd, .int .i64 tp, .int .i64 gk, .int .u64 gn, .int .i64 0, .string noText, .int .u64 0]) (by simp [results, Try.results18, go_sem]) rfl ⟨rfl, ?_⟩
  exact bnew (bnew (bnew (Below.refl _ _) _) _) _
set_option maxRecDepth 100000 in
set_option maxHeartbeats 4000000 in
theorem clean_3 (th : Int) (pk : Bool) (kd tp gk : Int) (gn : Nat) (md : Int) (tx : ByteArray) (ps : Nat) (w : World) (hp : pk = false) (hk : kd = 3) :
    Calls Try.prog 18 #[(En.mk th pk kd tp gk gn md tx ps).val] w fun e w' => e = .returned (En.mk th pk kd tp gk gn md tx ps).clean.val ∧ Below w.heap.size w w' := by
  have hre : (En.mk th pk kd tp gk gn md tx ps).clean.val = .agg #[.int .i64 th, .bool false, .int .i64 kd, .int .i64 tp, .int .i64 gk, .int .u64 gn, .int .i64 0, .string noText, .int .u64 0] := by unfold En.clean; simp [hp, hk, enZero]; try rfl
  rw [hre]
  unfold En.val
  dsimp only
  subst hp
  have t_3 : (kd == 3) = true := by rw [beq_iff_eq]; omega
  have t_0 : (kd == 0) = false := by rw [beq_eq_false_iff_ne]; omega
  have t_4 : (kd == 4) = false := by rw [beq_eq_false_iff_ne]; omega
  have t_2 : (kd == 2) = false := by rw [beq_eq_false_iff_ne]; omega
  clear hk hre
  go_enter Try.func18, Try.ntmps18
  go_wp2
  refine bodyPost_ret (v := .agg #[.int .i64 th, .bool false, .int .i64 kd, .int .i64 tp, .int .i64 gk, .int .u64 gn, .int .i64 0, .string noText, .int .u64 0]) (by simp [results, Try.results18, go_sem]) rfl ⟨rfl, ?_⟩
  exact bnew (bnew (bnew (Below.refl _ _) _) _) _
set_option maxRecDepth 100000 in
set_option maxHeartbeats 4000000 in
theorem clean_o (th : Int) (pk : Bool) (kd tp gk : Int) (gn : Nat) (md : Int) (tx : ByteArray) (ps : Nat) (w : World) (hp : pk = false) (hk : kd ≠ 0 ∧ kd ≠ 2 ∧ kd ≠ 3 ∧ kd ≠ 4) :
    Calls Try.prog 18 #[(En.mk th pk kd tp gk gn md tx ps).val] w fun e w' => e = .returned (En.mk th pk kd tp gk gn md tx ps).clean.val ∧ Below w.heap.size w w' := by
  have hre : (En.mk th pk kd tp gk gn md tx ps).clean.val = .agg #[.int .i64 th, .bool false, .int .i64 kd, .int .i64 tp, .int .i64 0, .int .u64 0, .int .i64 0, .string noText, .int .u64 0] := by unfold En.clean; simp [hp, hk, enZero]; try rfl
  rw [hre]
  unfold En.val
  dsimp only
  subst hp
  have t_0 : (kd == 0) = false := by rw [beq_eq_false_iff_ne]; omega
  have t_4 : (kd == 4) = false := by rw [beq_eq_false_iff_ne]; omega
  have t_2 : (kd == 2) = false := by rw [beq_eq_false_iff_ne]; omega
  have t_3 : (kd == 3) = false := by rw [beq_eq_false_iff_ne]; omega
  clear hk hre
  go_enter Try.func18, Try.ntmps18
  go_wp2
  refine bodyPost_ret (v := .agg #[.int .i64 th, .bool false, .int .i64 kd, .int .i64 tp, .int .i64 0, .int .u64 0, .int .i64 0, .string noText, .int .u64 0]) (by simp [results, Try.results18, go_sem]) rfl ⟨rfl, ?_⟩
  exact bnew (bnew (bnew (Below.refl _ _) _) _) _
set_option maxRecDepth 100000 in
set_option maxHeartbeats 4000000 in
theorem clean_0 (th : Int) (pk : Bool) (kd tp gk : Int) (gn : Nat) (md : Int) (tx : ByteArray) (ps : Nat) (w : World) (hp : pk = false) (hk : kd = 0) :
    Calls Try.prog 18 #[(En.mk th pk kd tp gk gn md tx ps).val] w fun e w' => e = .returned (En.mk th pk kd tp gk gn md tx ps).clean.val ∧ Below w.heap.size w w' := by
  have hre : (En.mk th pk kd tp gk gn md tx ps).clean.val = .agg #[.int .i64 th, .bool false, .int .i64 kd, .int .i64 tp, .int .i64 0, .int .u64 0, .int .i64 md, .string tx, .int .u64 0] := by unfold En.clean; simp [hp, hk, enZero]; try rfl
  rw [hre]
  unfold En.val
  dsimp only
  subst hp
  have t_0 : (kd == 0) = true := by rw [beq_iff_eq]; omega
  clear hk hre
  go_enter Try.func18, Try.ntmps18
  go_wp2
  go_region
  go_wp2
  refine bodyPost_ret (v := .agg #[.int .i64 th, .bool false, .int .i64 kd, .int .i64 tp, .int .i64 0, .int .u64 0, .int .i64 md, .string tx, .int .u64 0]) (by simp [results, Try.results18, go_sem]) rfl ⟨rfl, ?_⟩
  exact (bnew (bnew (bnew (Below.refl _ _) _) _) _).drew
set_option maxRecDepth 100000 in
set_option maxHeartbeats 4000000 in
theorem clean_4 (th : Int) (pk : Bool) (kd tp gk : Int) (gn : Nat) (md : Int) (tx : ByteArray) (ps : Nat) (w : World) (hp : pk = false) (hk : kd = 4) :
    Calls Try.prog 18 #[(En.mk th pk kd tp gk gn md tx ps).val] w fun e w' => e = .returned (En.mk th pk kd tp gk gn md tx ps).clean.val ∧ Below w.heap.size w w' := by
  have hre : (En.mk th pk kd tp gk gn md tx ps).clean.val = .agg #[.int .i64 th, .bool false, .int .i64 kd, .int .i64 tp, .int .i64 gk, .int .u64 gn, .int .i64 0, .string noText, .int .u64 ps] := by unfold En.clean; simp [hp, hk, enZero]; try rfl
  rw [hre]
  unfold En.val
  dsimp only
  subst hp
  have t_4 : (kd == 4) = true := by rw [beq_iff_eq]; omega
  have t_0 : (kd == 0) = false := by rw [beq_eq_false_iff_ne]; omega
  clear hk hre
  go_enter Try.func18, Try.ntmps18
  go_wp2
  go_region
  go_wp2
  refine bodyPost_ret (v := .agg #[.int .i64 th, .bool false, .int .i64 kd, .int .i64 tp, .int .i64 gk, .int .u64 gn, .int .i64 0, .string noText, .int .u64 ps]) (by simp [results, Try.results18, go_sem]) rfl ⟨rfl, ?_⟩
  exact (bnew (bnew (bnew (Below.refl _ _) _) _) _).drew
theorem clean_calls (e : En) (w : World) : Calls Try.prog 18 #[e.val] w fun r w' => r = .returned e.clean.val ∧ Below w.heap.size w w' := by
  obtain ⟨th, pk, kd, tp, gk, gn, md, tx, ps⟩ := e
  cases pk with
  | true => exact clean_pick th true kd tp gk gn md tx ps w rfl
  | false =>
    by_cases h0 : kd = 0
    · exact clean_0 th false kd tp gk gn md tx ps w rfl h0
    · by_cases h2 : kd = 2
      · exact clean_2 th false kd tp gk gn md tx ps w rfl h2
      · by_cases h3 : kd = 3
        · exact clean_3 th false kd tp gk gn md tx ps w rfl h3
        · by_cases h4 : kd = 4
          · exact clean_4 th false kd tp gk gn md tx ps w rfl h4
          · exact clean_o th false kd tp gk gn md tx ps w rfl ⟨h0, h2, h3, h4⟩

/-- whether a call may be laid. -/
def callB (kd tp gk md : Int) (n : Nat) : Bool := inB kd 0 4 && inB tp 0 3 && inB md 0 2 && decide ((n : Int) ≤ 64) && inB gk 0 7
set_option maxHeartbeats 2000000 in
theorem right_calls (kd tp gk : Int) (gn : Nat) (md : Int) (tx : ByteArray) (ps : Nat) (w : World) :
    Calls Try.prog 25 #[.agg #[.int .i64 kd, .int .i64 tp, .int .i64 gk, .int .u64 gn, .int .i64 md, .string tx, .int .u64 ps]] w fun e w' => e = .returned (.bool (callB kd tp gk md tx.size)) ∧ Below w.heap.size w w' := by
  unfold callB
  cases h1 : inB kd 0 4
  case false =>
    go_enter Try.func25, Try.ntmps25
    go_wp2_with (first | (go_at_call 24; refine (within_calls _ _ _ _).mono ?_; rintro e w' ⟨rfl, rfl⟩))
    go_ret
    exact ⟨by simp [h1], bnew (Below.refl _ _) _⟩
  case true =>
    cases h2 : inB tp 0 3
    case false =>
      go_enter Try.func25, Try.ntmps25
      go_wp2_with (first | (go_at_call 24; refine (within_calls _ _ _ _).mono ?_; rintro e w' ⟨rfl, rfl⟩))
      go_ret
      exact ⟨by simp [h1, h2], bnew (Below.refl _ _) _⟩
    case true =>
      cases h3 : inB md 0 2
      case false =>
        go_enter Try.func25, Try.ntmps25
        go_wp2_with (first | (go_at_call 24; refine (within_calls _ _ _ _).mono ?_; rintro e w' ⟨rfl, rfl⟩))
        go_ret
        exact ⟨by simp [h1, h2, h3], bnew (Below.refl _ _) _⟩
      case true =>
        cases h4 : decide ((tx.size : Int) ≤ 64)
        case false =>
          go_enter Try.func25, Try.ntmps25
          go_wp2_with (first | (go_at_call 24; refine (within_calls _ _ _ _).mono ?_; rintro e w' ⟨rfl, rfl⟩))
          go_ret
          exact ⟨by simp [h1, h2, h3, h4], bnew (Below.refl _ _) _⟩
        case true =>
          cases h5 : inB gk 0 7
          case false =>
            go_enter Try.func25, Try.ntmps25
            go_wp2_with (first | (go_at_call 24; refine (within_calls _ _ _ _).mono ?_; rintro e w' ⟨rfl, rfl⟩))
            go_ret
            exact ⟨by simp [h1, h2, h3, h4, h5], bnew (Below.refl _ _) _⟩
          case true =>
            go_enter Try.func25, Try.ntmps25
            go_wp2_with (first | (go_at_call 24; refine (within_calls _ _ _ _).mono ?_; rintro e w' ⟨rfl, rfl⟩))
            go_ret
            exact ⟨by simp [h1, h2, h3, h4, h5], bnew (Below.refl _ _) _⟩
end Go.Proofs.Ytgfingdopelinaa
