/- one step of a gate's operation, whole: the machine gstep, and Step. -/
import Derived.Test.YtjmooohhndjmiaaGatM
import Derived.Test.YtjmooohhndjmiaaGatB
namespace Go.Proofs.Ytjmooohhndjmiaa
open Go.RowKit Go.Deep
set_option linter.unusedVariables false
set_option linter.unusedSimpArgs false

/-- an operation, as numbers. -/
structure GOp where
  kind : Nat
  k : Nat
  pc : Nat
  wd : Nat
  v : Nat
  code : Nat
def GOp.cells (A M C : Nat) (o : GOp) : List Value := gCells A M C o.kind o.k o.pc o.wd o.v o.code
def GOp.stop (o : GOp) (code v : Nat) : GOp := { o with pc := 6, v := v, code := code }
/-- where a Least goes with a word: to the next one in use, or it ends. -/
def GOp.on (M : Nat) (o : GOp) (wd j v : Nat) : GOp :=
  if nextD wd (M - j) j < M then { o with k := nextD wd (M - j) j, pc := 2, wd := wd, v := v } else { o with k := M, pc := 6, wd := wd, v := v, code := 0 }
def gstep (A M C : Nat) (o : GOp) (ws : List Nat) : GOp × List Nat :=
  if o.pc = 6 then (o, ws)
  else if o.kind = 0 then
    if o.pc = 0 then (if (ws.getD A 0).testBit o.k then o.stop 14 0 else { o with pc := 1 }, ws)
    else if o.pc = 1 then ({ o with pc := 2, v := ws.getD C 0 }, ws)
    else if o.pc = 2 then ({ o with pc := 3 }, ws.set (A + 1 + o.k) o.v)
    else if o.pc = 3 then (if (ws.getD A 0).testBit o.k then o.stop 14 0 else { o with pc := 4 }, ws.set A (ws.getD A 0 ||| 2 ^ o.k))
    else if o.pc = 4 then ({ o with pc := 5, v := ws.getD C 0 }, ws)
    else (o.stop 0 o.v, ws.set (A + 1 + o.k) o.v)
  else if o.kind = 1 then
    if o.pc = 0 then (if (ws.getD A 0).testBit o.k then { o with pc := 1, wd := ws.getD A 0 } else { o.stop 13 0 with wd := ws.getD A 0 }, ws)
    else if ws.getD A 0 = o.wd then (o.stop 0 0, ws.set A (o.wd &&& (18446744073709551615 - 2 ^ o.k)))
    else ({ o with pc := 0 }, ws)
  else if o.pc = 0 then (o.on M (ws.getD A 0) 0 o.v, ws)
  else (o.on M o.wd (o.k + 1) (min o.v (ws.getD (A + 1 + o.k) 0)), ws)
/-- what holds of an operation that was begun. -/
structure GIn (M : Nat) (o : GOp) : Prop where
  kd : o.kind ≤ 2
  k : o.pc < 6 → o.k < M
  pc : o.pc ≤ 6 ∧ (o.kind = 1 → o.pc = 0 ∨ o.pc = 1 ∨ o.pc = 6) ∧ (o.kind = 2 → o.pc = 0 ∨ o.pc = 2 ∨ o.pc = 6)
  wd : o.wd < 18446744073709551616
  v : o.v < 18446744073709551616
def GPost (A M C b bw bb bo : Nat) (o : GOp) (ws : List Nat) (w : World) (e : Ending) (w' : World) : Prop :=
  e = .returned (.tuple #[]) ∧ Blk w' bo 88 ((gstep A M C o ws).1.cells A M C) ∧ MemAt w' b bw bb (gstep A M C o ws).2 ∧ Chg (fun j => j = b ∨ j = bw ∨ j = bo) w w'
theorem gjoin_step (b bw bb bo A M C : Nat) (o : GOp) (ws : List Nat) (w : World) (hb : Blk w bo 88 (o.cells A M C)) (hm : MemAt w b bw bb ws) (hg : GOk A M C) (hi : GIn M o) (hl : A + 1 + M ≤ ws.length ∧ C < ws.length) (hn : bo ≠ b ∧ bo ≠ bw ∧ bo ≠ bb) (hk : o.kind = 0) (h6 : o.pc < 6) :
    Calls Try.prog 38 #[.pointer (some ⟨bo, 0, none⟩), .pointer (some ⟨b, 0, none⟩)] w fun e w' => GPost A M C b bw bb bo o ws w e w' := by
  obtain ⟨kind, k, pc, wd, v, code⟩ := o
  have hkM := hi.k h6
  have hv := hi.v
  dsimp only at hk h6 hkM hv
  subst hk
  unfold GPost
  match pc, h6 with
  | 0, _ =>
    cases ht : (ws.getD A 0).testBit k
    · have h := join0b b bw bb bo A M C k wd v code ws w hb hm hg hkM hl hn ht
      simp only [gstep, GOp.stop, GOp.cells, ht, Bool.false_eq_true, reduceIte, reduceCtorEq]
      exact h
    · have h := join0a b bw bb bo A M C k wd v code ws w hb hm hg hkM hl hn ht
      simp only [gstep, GOp.stop, GOp.cells, ht, Bool.false_eq_true, reduceIte, reduceCtorEq]
      exact h
  | 1, _ =>
    have h := join1 b bw bb bo A M C k wd v code ws w hb hm hg hkM hl hn
    simpa [gstep, GOp.stop, GOp.cells] using h
  | 2, _ =>
    have h := join2 b bw bb bo A M C k wd v code ws w hb hm hg hkM hl hn hv
    simpa [gstep, GOp.stop, GOp.cells] using h
  | 3, _ =>
    cases ht : (ws.getD A 0).testBit k
    · have h := join3b b bw bb bo A M C k wd v code ws w hb hm hg hkM hl hn ht
      simp only [gstep, GOp.stop, GOp.cells, ht, Bool.false_eq_true, reduceIte, reduceCtorEq]
      exact h
    · have h := join3a b bw bb bo A M C k wd v code ws w hb hm hg hkM hl hn ht
      simp only [gstep, GOp.stop, GOp.cells, ht, Bool.false_eq_true, reduceIte, reduceCtorEq]
      exact h
  | 4, _ =>
    have h := join4 b bw bb bo A M C k wd v code ws w hb hm hg hkM hl hn
    simpa [gstep, GOp.stop, GOp.cells] using h
  | 5, _ =>
    have h := join5 b bw bb bo A M C k wd v code ws w hb hm hg hkM hl hn hv
    simpa [gstep, GOp.stop, GOp.cells] using h
theorem gleave_step (b bw bb bo A M C : Nat) (o : GOp) (ws : List Nat) (w : World) (hb : Blk w bo 88 (o.cells A M C)) (hm : MemAt w b bw bb ws) (hg : GOk A M C) (hi : GIn M o) (hl : A + 1 + M ≤ ws.length ∧ C < ws.length) (hn : bo ≠ b ∧ bo ≠ bw ∧ bo ≠ bb) (hk : o.kind = 1) (h6 : o.pc < 6) :
    Calls Try.prog 39 #[.pointer (some ⟨bo, 0, none⟩), .pointer (some ⟨b, 0, none⟩)] w fun e w' => GPost A M C b bw bb bo o ws w e w' := by
  obtain ⟨kind, k, pc, wd, v, code⟩ := o
  have hkM := hi.k h6
  have hpc := hi.pc.2.1 hk
  have hw := hi.wd
  dsimp only at hk h6 hkM hpc hw
  subst hk
  unfold GPost
  rcases hpc with rfl | rfl | rfl
  · cases ht : (ws.getD A 0).testBit k
    · have h := leave0a b bw bb bo A M C k wd v code ws w hb hm hg hkM hl hn ht
      simp only [gstep, GOp.stop, GOp.cells, ht, Bool.false_eq_true, reduceIte, reduceCtorEq]
      exact h
    · have h := leave0b b bw bb bo A M C k wd v code ws w hb hm hg hkM hl hn ht
      simp only [gstep, GOp.stop, GOp.cells, ht, Bool.false_eq_true, reduceIte, reduceCtorEq]
      exact h
  · by_cases he : ws.getD A 0 = wd
    · have h := leave1a b bw bb bo A M C k wd v code ws w hb hm hg hkM hl hn hw he
      simp only [gstep, GOp.stop, GOp.cells, he, reduceIte]
      exact h
    · have h := leave1b b bw bb bo A M C k wd v code ws w hb hm hg hkM hl hn hw he
      simp only [gstep, GOp.stop, GOp.cells, he, reduceIte]
      exact h
  · omega
theorem gleast_step (b bw bb bo A M C : Nat) (o : GOp) (ws : List Nat) (w : World) (hb : Blk w bo 88 (o.cells A M C)) (hm : MemAt w b bw bb ws) (hg : GOk A M C) (hi : GIn M o) (hl : A + 1 + M ≤ ws.length ∧ C < ws.length) (hn : bo ≠ b ∧ bo ≠ bw ∧ bo ≠ bb) (hk : o.kind = 2) (h6 : o.pc < 6) :
    Calls Try.prog 37 #[.pointer (some ⟨bo, 0, none⟩), .pointer (some ⟨b, 0, none⟩)] w fun e w' => GPost A M C b bw bb bo o ws w e w' := by
  obtain ⟨kind, k, pc, wd, v, code⟩ := o
  have hkM := hi.k h6
  have hpc := hi.pc.2.2 hk
  have hw := hi.wd
  dsimp only at hk h6 hkM hpc hw
  subst hk
  have key : ∀ wd' j v', (GOp.on M ⟨2, k, pc, wd, v, code⟩ wd' j v').cells A M C = (if nextD wd' (M - j) j < M then gCells A M C 2 (nextD wd' (M - j) j) 2 wd' v' code else gCells A M C 2 M 6 wd' v' 0) := by
    intro wd' j v'
    unfold GOp.on GOp.cells
    split <;> rfl
  unfold GPost
  rcases hpc with rfl | rfl | rfl
  · have h := least0 b bw bb bo A M C k wd v code ws w hb hm hg hkM hl hn
    rw [← key] at h
    exact h
  · by_cases hx : ws.getD (A + 1 + k) 0 < v
    · have h := least2a b bw bb bo A M C k wd v code ws w hb hm hg hkM hl hn hw hx
      rw [← key] at h
      have e : min v (ws.getD (A + 1 + k) 0) = ws.getD (A + 1 + k) 0 := by omega
      rw [← e] at h
      exact h
    · have h := least2b b bw bb bo A M C k wd v code ws w hb hm hg hkM hl hn hw hx
      rw [← key] at h
      have e : min v (ws.getD (A + 1 + k) 0) = v := by omega
      have h2 : gstep A M C ⟨2, k, 2, wd, v, code⟩ ws = (GOp.on M ⟨2, k, 2, wd, v, code⟩ wd (k + 1) v, ws) := by
        conv => rhs; rw [← e]
        rfl
      rw [h2]
      exact h
  · omega
end Go.Proofs.Ytjmooohhndjmiaa
