/- what holds of an operation is kept by a step. Plain. -/
import Derived.Test.YtjmooohhndjmiaaGatS
namespace Go.Proofs.Ytjmooohhndjmiaa
open Go.RowKit Go.Deep
set_option linter.unusedVariables false
set_option linter.unusedSimpArgs false

theorem gin_on {M : Nat} {o : GOp} (h : GIn M o) (wd j v : Nat) (hk : o.kind = 2) (hw : wd < 18446744073709551616) (hv : v < 18446744073709551616) : GIn M (o.on M wd j v) := by
  unfold GOp.on
  split
  · exact ⟨h.kd, fun _ => by assumption, ⟨(by show _ ≤ 6; simp), fun e => by simp [hk] at e, fun _ => .inr (.inl rfl)⟩, hw, hv⟩
  · exact ⟨h.kd, fun e => by simp at e, ⟨(by show _ ≤ 6; simp), fun e => by simp [hk] at e, fun _ => .inr (.inr rfl)⟩, hw, hv⟩
theorem gin_step {A M C : Nat} {o : GOp} {ws : List Nat} (h : GIn M o) (hw : ∀ i, ws.getD i 0 < 18446744073709551616) : GIn M (gstep A M C o ws).1 := by
  obtain ⟨kind, k, pc, wd, v, code⟩ := o
  have h1 := h.kd
  have h2 := h.k
  have h3 := h.pc
  have h4 := h.wd
  have h5 := h.v
  dsimp only at h1 h2 h3 h4 h5
  have hA := hw A
  have hC := hw C
  by_cases h6 : pc = 6
  · unfold gstep; rw [if_pos h6]; exact h
  · have hkM := h2 (by omega)
    unfold gstep
    rw [if_neg h6]
    dsimp only
    have mk : ∀ pc' wd' v' code', pc' ≤ 6 → (kind = 1 → pc' = 0 ∨ pc' = 1 ∨ pc' = 6) → (kind = 2 → pc' = 0 ∨ pc' = 2 ∨ pc' = 6) → wd' < 18446744073709551616 → v' < 18446744073709551616 → GIn M ⟨kind, k, pc', wd', v', code'⟩ :=
      fun pc' wd' v' code' a b c d e => ⟨h1, fun _ => hkM, ⟨a, b, c⟩, d, e⟩
    by_cases k0 : kind = 0
    · rw [if_pos k0]
      have n1 : kind ≠ 1 := by omega
      have n2 : kind ≠ 2 := by omega
      split
      · split
        · exact mk _ _ _ _ (by decide) (fun e => absurd e n1) (fun e => absurd e n2) h4 (by decide)
        · exact mk _ _ _ _ (by decide) (fun e => absurd e n1) (fun e => absurd e n2) h4 h5
      · split
        · exact mk _ _ _ _ (by decide) (fun e => absurd e n1) (fun e => absurd e n2) h4 hC
        · split
          · exact mk _ _ _ _ (by decide) (fun e => absurd e n1) (fun e => absurd e n2) h4 h5
          · split
            · dsimp only
              split
              · exact mk _ _ _ _ (by decide) (fun e => absurd e n1) (fun e => absurd e n2) h4 (by decide)
              · exact mk _ _ _ _ (by decide) (fun e => absurd e n1) (fun e => absurd e n2) h4 h5
            · split
              · exact mk _ _ _ _ (by decide) (fun e => absurd e n1) (fun e => absurd e n2) h4 hC
              · exact mk _ _ _ _ (by decide) (fun e => absurd e n1) (fun e => absurd e n2) h4 h5
    · rw [if_neg k0]
      by_cases k1 : kind = 1
      · rw [if_pos k1]
        have n2 : kind ≠ 2 := by omega
        split
        · dsimp only
          split
          · exact mk _ _ _ _ (by decide) (fun _ => .inr (.inl rfl)) (fun e => absurd e n2) hA h5
          · exact mk 6 _ 0 13 (by decide) (fun _ => .inr (.inr rfl)) (fun e => absurd e n2) hA (by decide)
        · split
          · exact mk _ _ _ _ (by decide) (fun _ => .inr (.inr rfl)) (fun e => absurd e n2) h4 (by decide)
          · exact mk _ _ _ _ (by decide) (fun _ => .inl rfl) (fun e => absurd e n2) h4 h5
      · rw [if_neg k1]
        have k2 : kind = 2 := by omega
        have hX := hw (A + 1 + k)
        split
        · exact gin_on h _ _ _ k2 hA h5
        · exact gin_on h _ _ _ k2 h4 (by omega)
end Go.Proofs.Ytjmooohhndjmiaa
