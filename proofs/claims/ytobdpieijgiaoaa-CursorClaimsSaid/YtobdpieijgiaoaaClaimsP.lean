/- CursorClaims: the plain law of one step. -/
import Derived.Test.YtobdpieijgiaoaaCurE
namespace Go.Proofs.Ytobdpieijgiaoaa

/-- an operation under way, held back by the words 1 and 2. -/
def ClOp (s w0 w1 w2 : Nat) (o : NOp) : Prop :=
  o.a = 0 ∧ o.s = s ∧ 1 ≤ o.m ∧ o.m ≤ s ∧ o.words = [1, 2] ∧ o.code = 0 ∧ o.p ≤ w0 ∧ o.g ≤ w0 ∧
    (o.pc = 0 ∨ (o.pc = 1 ∧ (o.k = 0 ∨ (o.k = 1 ∧ o.g ≤ w1))) ∨ (o.pc = 2 ∧ o.g ≤ w1 ∧ o.g ≤ w2 ∧ heldN s o.m o.p o.g = false))
theorem ClOp.mono {s w0 w1 w2 v0 v1 v2 : Nat} {o : NOp} (h : ClOp s w0 w1 w2 o) (h0 : w0 ≤ v0) (h1 : w1 ≤ v1) (h2 : w2 ≤ v2) : ClOp s v0 v1 v2 o := by
  obtain ⟨a1, a2, a3, a4, a5, a6, a7, a8, a9⟩ := h
  refine ⟨a1, a2, a3, a4, a5, a6, by omega, by omega, ?_⟩
  rcases a9 with h | ⟨h, h' | ⟨h', h''⟩⟩ | ⟨h, h', h'', h3⟩
  · exact .inl h
  · exact .inr (.inl ⟨h, .inl h'⟩)
  · exact .inr (.inl ⟨h, .inr ⟨h', by omega⟩⟩)
  · exact .inr (.inr ⟨h, by omega, by omega, h3⟩)
theorem ClOp.ok {s w0 w1 w2 : Nat} {o : NOp} (h : ClOp s w0 w1 w2 o) (hs : s ≤ 8) (h0 : w0 ≤ 4294967296) : NOk o 3 := by
  obtain ⟨a1, a2, a3, a4, a5, a6, a7, a8, a9⟩ := h
  refine ⟨by omega, by omega, by omega, by rw [a5]; decide, by rw [a5]; decide, by omega, by omega, ?_, ?_⟩
  · intro h
    rw [a5]
    show o.k < 2
    rcases a9 with h' | ⟨_, h' | ⟨h', _⟩⟩ | ⟨h', _⟩ <;> omega
  · rcases a9 with h' | ⟨h', _⟩ | ⟨h', _⟩ <;> omega
theorem held_le {s m p g : Nat} (h : heldN s m p g = false) (hm : m ≤ s) : p + m ≤ g + s := by
  unfold heldN at h
  by_cases h1 : p < g
  · omega
  · simp [h1] at h
    omega
theorem claims_step {s w0 w1 w2 : Nat} {o : NOp} (h : ClOp s w0 w1 w2 o) (hs : s ≤ 8) (h1 : w1 ≤ w0) (h2 : w2 ≤ w0) (h0 : w0 ≤ 4294967296) :
    ((stepN o [w0, w1, w2]).1.pc ≠ 3 ∧ ClOp s w0 w1 w2 (stepN o [w0, w1, w2]).1 ∧ (stepN o [w0, w1, w2]).1.m = o.m ∧ (stepN o [w0, w1, w2]).2 = [w0, w1, w2]) ∨
    ((stepN o [w0, w1, w2]).1.pc = 3 ∧ (stepN o [w0, w1, w2]).1.code = 15 ∧ (stepN o [w0, w1, w2]).1.p = 0 ∧ (stepN o [w0, w1, w2]).2 = [w0, w1, w2]) ∨
    ((stepN o [w0, w1, w2]).1.pc = 3 ∧ (stepN o [w0, w1, w2]).1.code = 0 ∧ (stepN o [w0, w1, w2]).1.p = w0 ∧ (stepN o [w0, w1, w2]).2 = [w0 + o.m, w1, w2] ∧ w0 + o.m ≤ w1 + s ∧ w0 + o.m ≤ w2 + s) := by
  obtain ⟨a, s', m, words, pc, k, p, g, code⟩ := o
  obtain ⟨a1, a2, a3, a4, a5, a6, a7, a8, a9⟩ := h
  dsimp only at a1 a2 a3 a4 a5 a6 a7 a8 a9
  subst a1 a2 a5 a6
  rcases a9 with rfl | ⟨rfl, hk⟩ | ⟨rfl, g1, g2, hh⟩
  · left
    have hm : ¬ m = 0 := by omega
    simp [stepN, hm, ClOp]
    omega
  · have hx : ∃ x, askG k ([w0, w1, w2].getD ([1, 2].getD k 0) 0) g = x := ⟨_, rfl⟩
    obtain ⟨x, hx⟩ := hx
    rcases hk with rfl | ⟨rfl, hg1⟩
    · have hxe : x = w1 := by rw [← hx]; simp [askG]
      left
      subst hxe
      simp [stepN, ClOp, askG]
      omega
    · have hxe : x ≤ w1 ∧ x ≤ w2 ∧ x ≤ w0 := by
        rw [← hx]
        simp only [askG]
        show (if (1 = 0 ∨ w2 < g) then w2 else g) ≤ w1 ∧ (if (1 = 0 ∨ w2 < g) then w2 else g) ≤ w2 ∧ (if (1 = 0 ∨ w2 < g) then w2 else g) ≤ w0
        by_cases hc : w2 < g <;> simp [hc] <;> omega
      have hst : stepN ⟨0, s', m, [1, 2], 1, 1, p, g, 0⟩ [w0, w1, w2] = (if heldN s' m p x then (⟨0, s', m, [1, 2], 3, 2, 0, x, 15⟩, [w0, w1, w2]) else (⟨0, s', m, [1, 2], 2, 2, p, x, 0⟩, [w0, w1, w2])) := by
        simp only [stepN, hx]
        simp
      rw [hst]
      cases hh : heldN s' m p x
      · left
        simp [ClOp, hh]
        omega
      · right; left
        simp
  · have hle := held_le hh a4
    by_cases hp : w0 = p
    · right; right
      subst hp
      have : (w0 + m) % 18446744073709551616 = w0 + m := by omega
      simp [stepN, this]
      omega
    · left
      simp [stepN, hp, ClOp]
      omega
end Go.Proofs.Ytobdpieijgiaoaa
