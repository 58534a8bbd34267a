/- the reference's operation beside the operation: what holds of both. Plain. -/
import Derived.Test.YtjmooohhndjmiaaGatI
namespace Go.Proofs.Ytjmooohhndjmiaa
open Go.RowKit Go.Deep
set_option linter.unusedVariables false
set_option linter.unusedSimpArgs false

/-- the reference's operation. -/
structure ROp where
  kind : Nat
  k : Int
  pc : Nat
  w : Nat
  v : Nat
  code : Nat
def ROp.vals (r : ROp) : List Value := [.int .i64 r.kind, .int .i64 1, .int .i64 0, .int .i64 r.k, .int .i64 r.pc, .int .u64 r.w, .int .u64 r.v, .int .i64 r.code]
/-- it stands where the operation stands. -/
def GRel (o : GOp) (r : ROp) : Prop := r.kind = o.kind ∧ r.pc = o.pc ∧ r.v = o.v ∧ r.code = o.code ∧ (o.pc < 6 → r.k = (o.k : Int) ∧ o.code = 0 ∧ ((o.kind = 1 ∧ o.pc = 1) ∨ (o.kind = 2 ∧ o.pc = 2) → r.w = o.wd))
/-- what a mask that was read is. -/
def GX (M : Nat) (o : GOp) : Prop := (((o.kind = 1 ∧ o.pc = 1) ∨ (o.kind = 2 ∧ o.pc = 2)) → o.wd < 2 ^ M) ∧ (o.kind = 1 ∧ o.pc = 1 → o.wd.testBit o.k = true)
theorem bit_sub : ∀ x, x < 16 → ∀ k, k < 4 → x.testBit k = true → x - 2 ^ k = x &&& (18446744073709551615 - 2 ^ k) ∧ 2 ^ k ≤ x := by decide +kernel
theorem pow_le16 {M x : Nat} (hM : M ≤ 4) (h : x < 2 ^ M) : x < 16 := Nat.lt_of_lt_of_le h (show 2 ^ M ≤ 2 ^ 4 from Nat.pow_le_pow_right (by decide) hM)
theorem bit_or16 : ∀ M, M < 5 → ∀ x, x < 16 → ∀ k, k < 4 → x < 2 ^ M → k < M → (x ||| 2 ^ k) < 2 ^ M := by decide +kernel
theorem bit_and16 : ∀ M, M < 5 → ∀ x, x < 16 → ∀ k, k < 4 → x < 2 ^ M → (x &&& (18446744073709551615 - 2 ^ k)) < 2 ^ M := by decide +kernel
/-- what is to be of an operation and of the mask is kept. -/
theorem gx_step {M : Nat} {o : GOp} {ws : List Nat} (hM : 1 ≤ M ∧ M ≤ 4) (hl : ws.length = 6) (hi : GIn M o) (hx : GX M o) (hmask : ws.getD 1 0 < 2 ^ M) :
    GX M (gstep 1 M 0 o ws).1 ∧ (gstep 1 M 0 o ws).2.getD 1 0 < 2 ^ M := by
  obtain ⟨kind, k, pc, wd, v, code⟩ := o
  have hkd := hi.kd
  have hpc := hi.pc
  have hkM := hi.k
  unfold GX at hx
  dsimp only at hkd hpc hkM hx
  have gx6 : ∀ o' : GOp, o'.pc = 6 → GX M o' := fun o' h => ⟨fun h' => by rcases h' with ⟨_, h'⟩ | ⟨_, h'⟩ <;> omega, fun h' => by have := h'.2; omega⟩
  have gx0 : ∀ o' : GOp, o'.kind = 0 → GX M o' := fun o' h => ⟨fun h' => by rcases h' with ⟨h', _⟩ | ⟨h', _⟩ <;> omega, fun h' => by have := h'.1; omega⟩
  have gxp : ∀ o' : GOp, o'.pc = 0 → GX M o' := fun o' h => ⟨fun h' => by rcases h' with ⟨_, h'⟩ | ⟨_, h'⟩ <;> omega, fun h' => by have := h'.2; omega⟩
  have key : ∀ i u, i ≠ 1 → (ws.set i u).getD 1 0 = ws.getD 1 0 := fun i u h => by simp only [List.getD, List.getElem?_set, h, if_false]
  have key1 : ∀ u, (ws.set 1 u).getD 1 0 = u := fun u => by simp [List.getD, hl]
  have hm16 := pow_le16 hM.2 hmask
  by_cases h6 : pc = 6
  · subst h6
    unfold gstep
    rw [if_pos rfl]
    exact ⟨gx6 _ rfl, hmask⟩
  · have h6' : pc < 6 := by omega
    have hk := hkM h6'
    have hk4 : k < 4 := by omega
    obtain ⟨x, hxx⟩ : ∃ x, ws.getD 1 0 = x := ⟨_, rfl⟩
    rcases (show kind = 0 ∨ kind = 1 ∨ kind = 2 by omega) with rfl | rfl | rfl
    · match pc, h6' with
      | 0, _ =>
        cases hb : x.testBit k
        · simp only [gstep, hxx, hb]; exact ⟨gx0 _ rfl, hmask⟩
        · simp only [gstep, hxx, hb]; exact ⟨gx0 _ rfl, hmask⟩
      | 1, _ => exact ⟨gx0 _ rfl, hmask⟩
      | 2, _ => exact ⟨gx0 _ rfl, by show (ws.set (1 + 1 + k) v).getD 1 0 < _; rw [key _ _ (by omega)]; exact hmask⟩
      | 3, _ =>
        have hor := bit_or16 M (by omega) x (by rw [← hxx]; exact hm16) k hk4 (by rw [← hxx]; exact hmask) hk
        have hs : (ws.set 1 (ws.getD 1 0 ||| 2 ^ k)).getD 1 0 < 2 ^ M := by rw [key1, hxx]; exact hor
        cases hb : x.testBit k
        · exact ⟨by simp only [gstep, hxx, hb]; exact gx0 _ rfl, hs⟩
        · exact ⟨by simp only [gstep, hxx, hb]; exact gx0 _ rfl, hs⟩
      | 4, _ => exact ⟨gx0 _ rfl, hmask⟩
      | 5, _ => exact ⟨gx0 _ rfl, by show (ws.set (1 + 1 + k) v).getD 1 0 < _; rw [key _ _ (by omega)]; exact hmask⟩
    · rcases hpc.2.1 rfl with rfl | rfl | rfl
      · cases hb : x.testBit k
        · simp only [gstep, hxx, hb]; exact ⟨gx6 _ rfl, hmask⟩
        · simp only [gstep, hxx, hb]; exact ⟨⟨fun _ => by rw [← hxx]; exact hmask, fun _ => hb⟩, hmask⟩
      · have hwM := hx.1 (.inl ⟨rfl, rfl⟩)
        by_cases he : ws.getD 1 0 = wd
        · have e : gstep 1 M 0 ⟨1, k, 1, wd, v, code⟩ ws = (GOp.stop ⟨1, k, 1, wd, v, code⟩ 0 0, ws.set 1 (wd &&& (18446744073709551615 - 2 ^ k))) := by simp only [gstep, he]; rfl
          rw [e]
          exact ⟨gx6 _ rfl, by show (ws.set 1 _).getD 1 0 < _; rw [key1]; exact bit_and16 M (by omega) wd (pow_le16 hM.2 hwM) k hk4 hwM⟩
        · have e : gstep 1 M 0 ⟨1, k, 1, wd, v, code⟩ ws = (⟨1, k, 0, wd, v, code⟩, ws) := by simp only [gstep, he]; rfl
          rw [e]
          exact ⟨gxp _ rfl, hmask⟩
      · exact absurd rfl h6
    · have hon : ∀ wd' j' v', wd' < 2 ^ M → GX M (GOp.on M ⟨2, k, pc, wd, v, code⟩ wd' j' v') := fun wd' j' v' h => by
        unfold GOp.on
        split
        · exact ⟨fun _ => h, fun h' => by have := h'.1; simp at this⟩
        · exact gx6 _ rfl
      rcases hpc.2.2 rfl with rfl | rfl | rfl
      · exact ⟨hon _ _ _ hmask, hmask⟩
      · exact ⟨hon _ _ _ (hx.1 (.inr ⟨rfl, rfl⟩)), hmask⟩
      · exact absurd rfl h6
end Go.Proofs.Ytjmooohhndjmiaa
