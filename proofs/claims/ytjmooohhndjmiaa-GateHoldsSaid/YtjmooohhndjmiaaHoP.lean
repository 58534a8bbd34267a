/- GateHolds: why no position by four or more above is claimed. Plain. -/
import Derived.Test.YtjmooohhndjmiaaGatI
namespace Go.Proofs.Ytjmooohhndjmiaa
open Go.RowKit Go.Deep
set_option linter.unusedVariables false
set_option linter.unusedSimpArgs false

/-- what the thread that joins will begin at, at least. -/
def hB (c : Nat) (j : GOp) : Nat := if 5 ≤ j.pc then j.v else c
/-- what holds of it, with the cursor at c, the mask m, its word x. -/
structure HJ (c m x : Nat) (j : GOp) : Prop where
  kd : j.kind = 0
  k : j.k = 1
  pc : j.pc ≤ 6
  lo : j.pc ≤ 3 → m = 0
  hi : 4 ≤ j.pc → m = 2
  vc : 2 ≤ j.pc → j.v ≤ c
  xb : 3 ≤ j.pc → x ≤ hB c j
  cb : 5 ≤ j.pc → c ≤ j.v + 4
  en : j.pc = 6 → x = j.v ∧ j.code = 0
  co : j.code = 0
/-- what holds of a thread that claims: where it is (a), where it began (f), its operation (o). -/
def HTok (c B pj a f : Nat) (o : GOp) : Prop :=
  a = 0 ∨ (a = 1 ∧ f ≤ c ∧ (o = ⟨2, 0, 0, 0, f, 0⟩ ∨ (o = ⟨2, 1, 2, 2, f, 0⟩ ∧ 4 ≤ pj))) ∨ (a = 2 ∧ f ≤ c ∧ f ≤ B + 3)
theorem HTok.mono {c B pj a f : Nat} {o : GOp} (h : HTok c B pj a f o) {c' B' pj' : Nat} (h1 : c ≤ c') (h2 : B ≤ B') (h3 : pj ≤ pj') : HTok c' B' pj' a f o := by
  rcases h with h | ⟨ha, hf, ho⟩ | ⟨ha, hf, hb⟩
  · exact .inl h
  · refine .inr (.inl ⟨ha, by omega, ?_⟩)
    rcases ho with ho | ⟨ho, h4⟩
    · exact .inl ho
    · exact .inr ⟨ho, by omega⟩
  · exact .inr (.inr ⟨ha, by omega, by omega⟩)
/-- a step of the thread that joins. -/
theorem hj_step {c m x : Nat} {j : GOp} (h : HJ c m x j) :
    ∃ j' m' x', gstep 1 2 0 j [c, m, 0, x] = (j', [c, m', 0, x']) ∧ HJ c m' x' j' ∧ hB c j' = hB c j ∧ j.pc ≤ j'.pc ∧ (j.pc = 6 → j' = j) := by
  obtain ⟨kind, k, pc, wd, v, code⟩ := j
  obtain ⟨h1, h2, h3, h4, h5, h6, h7, h8, h9, h10⟩ := h
  dsimp only at h1 h2 h3 h4 h5 h6 h7 h8 h9 h10
  subst h1 h2 h10
  match pc, h3 with
  | 0, _ =>
    obtain rfl := h4 (by decide)
    exact ⟨⟨0, 1, 1, wd, v, 0⟩, 0, x, by simp [gstep, GOp.stop], ⟨rfl, rfl, Nat.le_of_ble_eq_true rfl, fun _ => rfl, fun h => by simp at h, fun h => by simp at h, fun h => by simp at h, fun h => by simp at h, fun h => by simp at h, rfl⟩, rfl, by simp, fun h => by simp at h⟩
  | 1, _ =>
    obtain rfl := h4 (by decide)
    exact ⟨⟨0, 1, 2, wd, c, 0⟩, 0, x, by simp [gstep, GOp.stop], ⟨rfl, rfl, Nat.le_of_ble_eq_true rfl, fun _ => rfl, fun h => by simp at h, fun _ => Nat.le_refl _, fun h => by simp at h, fun h => by simp at h, fun h => by simp at h, rfl⟩, rfl, by simp, fun h => by simp at h⟩
  | 2, _ =>
    obtain rfl := h4 (by decide)
    have hv := h6 (by decide)
    exact ⟨⟨0, 1, 3, wd, v, 0⟩, 0, v, by simp [gstep, GOp.stop], ⟨rfl, rfl, Nat.le_of_ble_eq_true rfl, fun _ => rfl, fun h => by simp at h, fun _ => hv, fun _ => hv, fun h => by simp at h, fun h => by simp at h, rfl⟩, rfl, by simp, fun h => by simp at h⟩
  | 3, _ =>
    obtain rfl := h4 (by decide)
    have hv := h6 (by decide)
    have hx := h7 (by decide)
    exact ⟨⟨0, 1, 4, wd, v, 0⟩, 2, x, by simp [gstep, GOp.stop], ⟨rfl, rfl, Nat.le_of_ble_eq_true rfl, fun h => by simp at h, fun _ => rfl, fun _ => hv, fun _ => hx, fun h => by simp at h, fun h => by simp at h, rfl⟩, rfl, by simp, fun h => by simp at h⟩
  | 4, _ =>
    obtain rfl := h5 (by decide)
    have hx := h7 (by decide)
    exact ⟨⟨0, 1, 5, wd, c, 0⟩, 2, x, by simp [gstep, GOp.stop], ⟨rfl, rfl, Nat.le_of_ble_eq_true rfl, fun h => by simp at h, fun _ => rfl, fun _ => Nat.le_refl _, fun _ => hx, fun _ => Nat.le_add_right _ _, fun h => by simp at h, rfl⟩, rfl, by simp, fun h => by simp at h⟩
  | 5, _ =>
    obtain rfl := h5 (by decide)
    have hv := h6 (by decide)
    have hc := h8 (by decide)
    exact ⟨⟨0, 1, 6, wd, v, 0⟩, 2, v, by simp [gstep, GOp.stop], ⟨rfl, rfl, Nat.le_of_ble_eq_true rfl, fun h => by simp at h, fun _ => rfl, fun _ => hv, fun _ => Nat.le_refl _, fun _ => hc, fun _ => ⟨rfl, rfl⟩, rfl⟩, rfl, by simp, fun h => by simp at h⟩
  | 6, _ =>
    exact ⟨⟨0, 1, 6, wd, v, 0⟩, m, x, by simp [gstep, GOp.stop], ⟨rfl, rfl, Nat.le_of_ble_eq_true rfl, h4, h5, h6, h7, h8, h9, rfl⟩, rfl, Nat.le_refl _, fun _ => rfl⟩
/-- a step of a Least of a thread: it goes on, or it is done, and if the number is near the thread may claim. -/
theorem ht_step {c m x : Nat} {j : GOp} (h : HJ c m x j) {f : Nat} {o : GOp} (ht : HTok c (hB c j) j.pc 1 f o) :
    ∃ o', gstep 1 2 0 o [c, m, 0, x] = (o', [c, m, 0, x]) ∧ ((o'.pc ≠ 6 ∧ HTok c (hB c j) j.pc 1 f o') ∨ (o'.pc = 6 ∧ o'.code = 0 ∧ o'.v ≤ f ∧ (f - o'.v < 4 → HTok c (hB c j) j.pc 2 f o'))) := by
  rcases ht with ht | ⟨_, hf, ho⟩ | ⟨ht, _⟩
  · simp at ht
  · rcases ho with rfl | ⟨rfl, h4⟩
    · by_cases hp : j.pc ≤ 3
      · obtain rfl := h.lo hp
        refine ⟨⟨2, 2, 6, 0, f, 0⟩, by kernel_rfl, .inr ⟨rfl, rfl, Nat.le_refl _, fun _ => .inr (.inr ⟨rfl, hf, ?_⟩)⟩⟩
        unfold hB
        rw [if_neg (by omega)]
        omega
      · obtain rfl := h.hi (by omega)
        exact ⟨⟨2, 1, 2, 2, f, 0⟩, by kernel_rfl, .inl ⟨by simp, .inr (.inl ⟨rfl, hf, .inr ⟨rfl, by omega⟩⟩)⟩⟩
    · refine ⟨⟨2, 2, 6, 2, min f x, 0⟩, by kernel_rfl, .inr ⟨rfl, rfl, Nat.min_le_left _ _, fun hlt => .inr (.inr ⟨rfl, hf, ?_⟩)⟩⟩
      have := h.xb (by omega)
      dsimp only at hlt
      omega
  · simp at ht
/-- a claim that is done. -/
theorem hj_claim {c m x : Nat} {j : GOp} (h : HJ c m x j) (hc : c ≤ hB c j + 3) : HJ (c + 1) m x j ∧ hB c j ≤ hB (c + 1) j := by
  have hb : hB c j ≤ hB (c + 1) j := by unfold hB; split <;> omega
  refine ⟨⟨h.kd, h.k, h.pc, h.lo, h.hi, fun g => by have := h.vc g; omega, fun g => by have := h.xb g; omega, fun g => ?_, h.en, h.co⟩, hb⟩
  unfold hB at hc
  rw [if_pos g] at hc
  omega
/-- what was found. -/
def hJoined (joined : Bool) (start : Nat) (j : GOp) : Prop := joined = true → j.pc = 6 ∧ start = j.v
/-- the operations that may be: what GIn asks. -/
theorem ht_gin {c B pj f : Nat} {o : GOp} (h : HTok c B pj 1 f o) (hf : f < 18446744073709551616) : GIn 2 o := by
  rcases h with h | ⟨_, _, ho⟩ | ⟨h, _⟩
  · simp at h
  · rcases ho with rfl | ⟨rfl, _⟩
    · exact ⟨Nat.le_of_ble_eq_true rfl, fun _ => Nat.le_of_ble_eq_true rfl, ⟨Nat.le_of_ble_eq_true rfl, fun h => by simp at h, fun _ => .inl rfl⟩, Nat.le_of_ble_eq_true rfl, hf⟩
    · exact ⟨Nat.le_of_ble_eq_true rfl, fun _ => Nat.le_of_ble_eq_true rfl, ⟨Nat.le_of_ble_eq_true rfl, fun h => by simp at h, fun _ => .inr (.inl rfl)⟩, Nat.le_of_ble_eq_true rfl, hf⟩
  · simp at h
end Go.Proofs.Ytjmooohhndjmiaa
