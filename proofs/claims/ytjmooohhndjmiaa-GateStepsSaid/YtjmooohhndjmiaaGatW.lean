/- what an operation comes to that is done alone. Plain. -/
import Derived.Test.YtjmooohhndjmiaaGatR
namespace Go.Proofs.Ytjmooohhndjmiaa
open Go.RowKit Go.Deep
set_option linter.unusedVariables false

theorem giter_first (A M C : Nat) : ∀ (j : Nat) (s : GOp × List Nat), giter A M C (j + 1) s = giter A M C j (gstep A M C s.1 s.2)
  | 0, s => rfl
  | j + 1, s => by
    show gstep A M C (giter A M C (j + 1) s).1 (giter A M C (j + 1) s).2 = gstep A M C (giter A M C j (gstep A M C s.1 s.2)).1 (giter A M C j (gstep A M C s.1 s.2)).2
    rw [giter_first A M C j s]
/-- how many bits are set. -/
def cntD (wd : Nat) : Nat → Nat → Nat
  | 0, _ => 0
  | f + 1, j => (if wd.testBit j then 1 else 0) + cntD wd f (j + 1)
/-- the least of those in use, or a number. -/
def mnD (A wd : Nat) (ws : List Nat) : Nat → Nat → Nat → Nat
  | 0, _, v => v
  | f + 1, j, v => if wd.testBit j then mnD A wd ws f (j + 1) (min v (ws.getD (A + 1 + j) 0)) else mnD A wd ws f (j + 1) v
theorem cntD_le (wd : Nat) : ∀ f j, cntD wd f j ≤ f
  | 0, _ => Nat.le_refl _
  | f + 1, j => by have := cntD_le wd f (j + 1); show (if _ then 1 else 0) + _ ≤ _; split <;> omega
theorem least_rest (A M C wd : Nat) (ws : List Nat) : ∀ (f j v : Nat) (o : GOp), M - j = f → j ≤ M → o.kind = 2 →
    (∀ i, i < cntD wd f j → (giter A M C i (o.on M wd j v, ws)).1.pc ≠ 6) ∧ giter A M C (cntD wd f j) (o.on M wd j v, ws) = ({ o with k := M, pc := 6, wd := wd, v := mnD A wd ws f j v, code := 0 }, ws)
  | 0, j, v, o, hf, hj, hk => by
    obtain rfl : j = M := by omega
    have e : o.on j wd j v = { o with k := j, pc := 6, wd := wd, v := v, code := 0 } := by
      unfold GOp.on
      rw [Nat.sub_self, if_neg (by show ¬ (j < j); omega)]
    rw [e]
    exact ⟨fun i hi => absurd hi (Nat.not_lt_zero _), rfl⟩
  | f + 1, j, v, o, hf, hj, hk => by
    have hf' : M - (j + 1) = f := by omega
    cases hb : wd.testBit j
    · have e : o.on M wd j v = o.on M wd (j + 1) v := by
        unfold GOp.on
        have : nextD wd (M - j) j = nextD wd (M - (j + 1)) (j + 1) := by
          rw [hf, hf']
          show (if wd.testBit j then j else _) = _
          rw [hb]; rfl
        rw [this]
      have e1 : cntD wd (f + 1) j = cntD wd f (j + 1) := by
        show (if wd.testBit j then 1 else 0) + cntD wd f (j + 1) = _
        rw [hb]; simp
      have e2 : mnD A wd ws (f + 1) j v = mnD A wd ws f (j + 1) v := by
        show (if wd.testBit j then _ else _) = _
        rw [hb]; rfl
      rw [e, e1, e2]
      exact least_rest A M C wd ws f (j + 1) v o hf' (by omega) hk
    · have e : o.on M wd j v = { o with k := j, pc := 2, wd := wd, v := v } := by
        unfold GOp.on
        have : nextD wd (M - j) j = j := by
          rw [hf]
          show (if wd.testBit j then j else _) = _
          rw [hb]; rfl
        rw [this, if_pos (by omega)]
      have e1 : cntD wd (f + 1) j = cntD wd f (j + 1) + 1 := by
        show (if wd.testBit j then 1 else 0) + cntD wd f (j + 1) = _
        rw [hb]; simp; omega
      have e2 : mnD A wd ws (f + 1) j v = mnD A wd ws f (j + 1) (min v (ws.getD (A + 1 + j) 0)) := by
        show (if wd.testBit j then _ else _) = _
        rw [hb]; rfl
      have e3 : gstep A M C { o with k := j, pc := 2, wd := wd, v := v } ws = (({ o with k := j, pc := 2, wd := wd, v := v } : GOp).on M wd (j + 1) (min v (ws.getD (A + 1 + j) 0)), ws) := by
        unfold gstep
        dsimp only
        rw [hk]
        rfl
      obtain ⟨h1, h2⟩ := least_rest A M C wd ws f (j + 1) (min v (ws.getD (A + 1 + j) 0)) { o with k := j, pc := 2, wd := wd, v := v } hf' (by omega) hk
      rw [e, e1, e2]
      constructor
      · intro i hi
        match i with
        | 0 => show (2 : Nat) ≠ 6; decide
        | i + 1 =>
          rw [giter_first]
          dsimp only
          rw [e3]
          exact h1 i (by omega)
      · rw [giter_first]
        dsimp only
        rw [e3, h2]
theorem alone_least (A M C v : Nat) (ws : List Nat) : (∀ i, i < 1 + cntD (ws.getD A 0) M 0 → (giter A M C i (⟨2, 0, 0, 0, v, 0⟩, ws)).1.pc ≠ 6) ∧ giter A M C (1 + cntD (ws.getD A 0) M 0) (⟨2, 0, 0, 0, v, 0⟩, ws) = (⟨2, M, 6, ws.getD A 0, mnD A (ws.getD A 0) ws M 0 v, 0⟩, ws) := by
  obtain ⟨h1, h2⟩ := least_rest A M C (ws.getD A 0) ws M 0 v ⟨2, 0, 0, 0, v, 0⟩ (Nat.sub_zero _) (Nat.zero_le _) rfl
  have e : gstep A M C ⟨2, 0, 0, 0, v, 0⟩ ws = (GOp.on M ⟨2, 0, 0, 0, v, 0⟩ (ws.getD A 0) 0 v, ws) := rfl
  constructor
  · intro i hi
    match i with
    | 0 => show (0 : Nat) ≠ 6; decide
    | i + 1 =>
      rw [giter_first]
      dsimp only
      rw [e]
      exact h1 i (by omega)
  · rw [Nat.add_comm, giter_first]
    dsimp only
    rw [e, h2]
theorem alone_join_no (A M C k : Nat) (ws : List Nat) (hb : (ws.getD A 0).testBit k = true) : (∀ i, i < 1 → (giter A M C i (⟨0, k, 0, 0, 0, 0⟩, ws)).1.pc ≠ 6) ∧ giter A M C 1 (⟨0, k, 0, 0, 0, 0⟩, ws) = (⟨0, k, 6, 0, 0, 14⟩, ws) := by
  constructor
  · intro i hi
    obtain rfl : i = 0 := by omega
    show (0 : Nat) ≠ 6; decide
  · show gstep A M C ⟨0, k, 0, 0, 0, 0⟩ ws = _
    simp only [gstep, GOp.stop, hb]
    rfl
theorem alone_leave_no (A M C k : Nat) (ws : List Nat) (hb : (ws.getD A 0).testBit k = false) : (∀ i, i < 1 → (giter A M C i (⟨1, k, 0, 0, 0, 0⟩, ws)).1.pc ≠ 6) ∧ giter A M C 1 (⟨1, k, 0, 0, 0, 0⟩, ws) = (⟨1, k, 6, ws.getD A 0, 0, 13⟩, ws) := by
  constructor
  · intro i hi
    obtain rfl : i = 0 := by omega
    show (0 : Nat) ≠ 6; decide
  · show gstep A M C ⟨1, k, 0, 0, 0, 0⟩ ws = _
    simp only [gstep, GOp.stop, hb]
    rfl
theorem alone_leave (A M C k : Nat) (ws : List Nat) (hb : (ws.getD A 0).testBit k = true) : (∀ i, i < 2 → (giter A M C i (⟨1, k, 0, 0, 0, 0⟩, ws)).1.pc ≠ 6) ∧ giter A M C 2 (⟨1, k, 0, 0, 0, 0⟩, ws) = (⟨1, k, 6, ws.getD A 0, 0, 0⟩, ws.set A (ws.getD A 0 &&& (18446744073709551615 - 2 ^ k))) := by
  have e1 : giter A M C 1 (⟨1, k, 0, 0, 0, 0⟩, ws) = (⟨1, k, 1, ws.getD A 0, 0, 0⟩, ws) := by
    show gstep A M C ⟨1, k, 0, 0, 0, 0⟩ ws = _
    simp only [gstep, hb]
    rfl
  constructor
  · intro i hi
    match i, hi with
    | 0, _ => show (0 : Nat) ≠ 6; decide
    | 1, _ => rw [e1]; show (1 : Nat) ≠ 6; decide
  · show gstep A M C (giter A M C 1 (⟨1, k, 0, 0, 0, 0⟩, ws)).1 (giter A M C 1 (⟨1, k, 0, 0, 0, 0⟩, ws)).2 = _
    rw [e1]
    simp [gstep, GOp.stop]
/-- a Join that is done: the gate at 1, the cursor at 0. -/
theorem alone_join (M k c m : Nat) (r : List Nat) (hb : m.testBit k = false) (hk : k < r.length) : (∀ i, i < 6 → (giter 1 M 0 i (⟨0, k, 0, 0, 0, 0⟩, c :: m :: r)).1.pc ≠ 6) ∧ giter 1 M 0 6 (⟨0, k, 0, 0, 0, 0⟩, c :: m :: r) = (⟨0, k, 6, 0, c, 0⟩, c :: (m ||| 2 ^ k) :: r.set k c) := by
  have en : 1 + 1 + k = k + 2 := by omega
  have e1 : giter 1 M 0 1 (⟨0, k, 0, 0, 0, 0⟩, c :: m :: r) = (⟨0, k, 1, 0, 0, 0⟩, c :: m :: r) := by
    show gstep 1 M 0 ⟨0, k, 0, 0, 0, 0⟩ (c :: m :: r) = _
    simp [gstep, hb]
  have e2 : giter 1 M 0 2 (⟨0, k, 0, 0, 0, 0⟩, c :: m :: r) = (⟨0, k, 2, 0, c, 0⟩, c :: m :: r) := by
    show gstep 1 M 0 (giter 1 M 0 1 _).1 (giter 1 M 0 1 _).2 = _
    rw [e1]; simp [gstep]
  have e3 : giter 1 M 0 3 (⟨0, k, 0, 0, 0, 0⟩, c :: m :: r) = (⟨0, k, 3, 0, c, 0⟩, c :: m :: r.set k c) := by
    show gstep 1 M 0 (giter 1 M 0 2 _).1 (giter 1 M 0 2 _).2 = _
    rw [e2]; simp [gstep, en]
  have e4 : giter 1 M 0 4 (⟨0, k, 0, 0, 0, 0⟩, c :: m :: r) = (⟨0, k, 4, 0, c, 0⟩, c :: (m ||| 2 ^ k) :: r.set k c) := by
    show gstep 1 M 0 (giter 1 M 0 3 _).1 (giter 1 M 0 3 _).2 = _
    rw [e3]; simp [gstep, hb]
  have e5 : giter 1 M 0 5 (⟨0, k, 0, 0, 0, 0⟩, c :: m :: r) = (⟨0, k, 5, 0, c, 0⟩, c :: (m ||| 2 ^ k) :: r.set k c) := by
    show gstep 1 M 0 (giter 1 M 0 4 _).1 (giter 1 M 0 4 _).2 = _
    rw [e4]; simp [gstep]
  constructor
  · intro i hi
    match i, hi with
    | 0, _ => show (0 : Nat) ≠ 6; decide
    | 1, _ => rw [e1]; show (1 : Nat) ≠ 6; decide
    | 2, _ => rw [e2]; show (2 : Nat) ≠ 6; decide
    | 3, _ => rw [e3]; show (3 : Nat) ≠ 6; decide
    | 4, _ => rw [e4]; show (4 : Nat) ≠ 6; decide
    | 5, _ => rw [e5]; show (5 : Nat) ≠ 6; decide
  · show gstep 1 M 0 (giter 1 M 0 5 _).1 (giter 1 M 0 5 _).2 = _
    rw [e5]; simp [gstep, GOp.stop, en]
end Go.Proofs.Ytjmooohhndjmiaa
