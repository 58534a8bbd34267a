/- which words are in use: a map of the call's own from a word's number to where it began. -/
import Derived.Test.YtjmooohhndjmiaaGatW
import Derived.Test.YtjmooohhndjmiaaMisc
import Derived.Maps.Own
import Derived.Maps.OwnSet
import Derived.Maps.Views
namespace Go.Proofs.Ytjmooohhndjmiaa
open Go.RowKit Go.Deep Go.Maps
set_option linter.unusedVariables false
set_option linter.unusedSimpArgs false

/-- the map at bm holds just the words below 4 whose bit is set, each with its number; it was written at most i times. -/
def InAt (w : World) (bm i m : Nat) (r : List Nat) : Prop :=
  ∃ (n : Nat) (D : DataW Unit), w.ownsMap Try.prog 3 (plainElem Try.prog 40) bm n D ∧ n ≤ i ∧ (∀ k : Nat, k < 4 → has D (.int .i64 k) = m.testBit k) ∧
    (∀ k : Nat, k < 4 → m.testBit k = true → D.atKey (.int .i64 k) (.lit (.int .u64 0)) = .lit (.int .u64 (r.getD k 0 : Nat))) ∧ size D = cntD m 4 0
theorem key_int (k : Nat) (hk : k < 4) : keyOf Try.prog 3 (.int .i64 k) = some (.int .i64 k) :=
  keyOf_int_mk Try.underlying3 (by simp only [Lit.wf, Bool.and_eq_true, decide_eq_true_eq]; exact ⟨by show (-9223372036854775808 : Int) ≤ k; omega, by show (k : Int) ≤ 9223372036854775807; omega⟩)
theorem key_ne {k j : Nat} (h : j ≠ k) : (Lit.int .i64 (j : Int)) ≠ (Lit.int .i64 (k : Int)) := by
  intro e; apply h; injection e with _ h2; omega
theorem in_made (w : World) (r : List Nat) : InAt (w.alloc (.map #[] 0)) w.heap.size 0 0 r :=
  ⟨0, .map [], World.ownsMap_made w _ _ _, by omega, fun k _ => by simp [has], fun k _ h => by simp at h, rfl⟩
theorem in_lookup {w : World} {bm i m : Nat} {r : List Nat} (h : InAt w bm i m r) (k : Nat) (hk : k < 4) :
    ∃ x : Nat, (Instr.lookup 58 (.map (some bm)) (.int .i64 k) true).run Try.prog w = .ok (.tuple #[.int .u64 (x : Nat), .bool (m.testBit k)]) w ∧ (m.testBit k = true → x = r.getD k 0) := by
  obtain ⟨n, D, ho, _, ha, hb, _⟩ := h
  obtain ⟨v, ps, hrun, hv⟩ := ho.look_ok (int_keyed Try.underlying3) Try.underlying58 (z := .int .u64 0) (by exact Try.zeroValue40 w) (plainElem_int Try.underlying40 (by decide)) (key_int k hk)
  obtain ⟨c, rfl, hx, hw⟩ := plainElem_int_inv Try.underlying40 hv
  have hc0 : 0 ≤ c := by
    simp only [Lit.wf, Bool.and_eq_true, decide_eq_true_eq] at hw
    exact hw.1
  obtain ⟨x, rfl⟩ : ∃ x : Nat, c = x := ⟨c.toNat, by omega⟩
  rw [ha k hk] at hrun
  refine ⟨x, hrun, fun ht => ?_⟩
  rw [hb k hk ht] at hx
  have := congrArg Prod.fst hx
  dsimp only at this
  simp only [DataW.lit.injEq, Lit.int.injEq, true_and] at this
  omega
theorem bit_or : ∀ m, m < 16 → ∀ k, k < 4 → m.testBit k = false → (m ||| 2 ^ k) < 16 ∧ cntD (m ||| 2 ^ k) 4 0 = cntD m 4 0 + 1 ∧ ∀ j, j < 4 → (m ||| 2 ^ k).testBit j = (if j = k then true else m.testBit j) := by decide +kernel
theorem bit_off : ∀ m, m < 16 → ∀ k, k < 4 → m.testBit k = true → (m &&& (18446744073709551615 - 2 ^ k)) < 16 ∧ cntD (m &&& (18446744073709551615 - 2 ^ k)) 4 0 + 1 = cntD m 4 0 ∧ ∀ j, j < 4 → (m &&& (18446744073709551615 - 2 ^ k)).testBit j = (if j = k then false else m.testBit j) := by decide +kernel
theorem in_update {w : World} {bm i m : Nat} {r : List Nat} (h : InAt w bm i m r) (k v : Nat) (hk : k < 4) (hm : m < 16) (ht : m.testBit k = false) (hv : v < 18446744073709551616) (hi : i < 1000) (hr : r.length = 4) :
    ∃ w', (Instr.mapUpdate 58 (.map (some bm)) (.int .i64 k) (.int .u64 v)).run Try.prog w = .ok () w' ∧ InAt w' bm (i + 1) (m ||| 2 ^ k) (r.set k v) ∧ w.grownBy w' (some bm) := by
  obtain ⟨n, D, ho, hn, ha, hb, hs⟩ := h
  obtain ⟨w', hrun, ho', hg⟩ := ho.update (int_keyed Try.underlying3) Try.underlying58 (by simp [maxLen]; omega) (key_int k hk) (plainElem_int Try.underlying40 (a := v) (by simp only [Lit.wf, Bool.and_eq_true, decide_eq_true_eq]; exact ⟨Int.natCast_nonneg v, by show (v : Int) ≤ 18446744073709551615; omega⟩))
  obtain ⟨b1, b2, b3⟩ := bit_or m hm k hk ht
  have hK : WideAt.IsKeyLit (Lit.int .i64 (k : Int)) := by simp [WideAt.IsKeyLit]
  refine ⟨w', hrun, ⟨n + 1, _, ho', by omega, fun j hj => ?_, fun j hj hjt => ?_, ?_⟩, hg⟩
  · rw [b3 j hj]
    by_cases h1 : j = k
    · subst h1
      rw [has_put_same ho.isMap hK, if_pos rfl]
    · rw [has_put_other (key_ne h1), ha j hj, if_neg h1]
  · by_cases h1 : j = k
    · subst h1
      rw [atKey_put_same ho.isMap hK]
      have : (r.set j v).getD j 0 = v := by simp [List.getD, hr, hj]
      rw [this]
    · rw [atKey_put_other (key_ne h1)]
      rw [b3 j hj, if_neg h1] at hjt
      rw [hb j hj hjt]
      have : (r.set k v).getD j 0 = r.getD j 0 := by simp [List.getD, List.getElem?_set, Ne.symm h1]
      rw [this]
  · rw [size_put (ho.tidy (int_keyed Try.underlying3)), ha k hk, ht, hs, b2]; rfl
theorem in_delete {w : World} {bm i m : Nat} {r : List Nat} (h : InAt w bm i m r) (k : Nat) (ty : TypeId) (hk : k < 4) (hm : m < 16) (ht : m.testBit k = true) :
    ∃ w', (Builtin.delete_ #[58, 3] ty #[.map (some bm), .int .i64 k]).run Try.prog w = .ok (.tuple #[]) w' ∧ InAt w' bm i (m &&& (18446744073709551615 - 2 ^ k)) r ∧ w.grownBy w' (some bm) := by
  obtain ⟨n, D, ho, hn, ha, hb, hs⟩ := h
  obtain ⟨w', hrun, ho', hg⟩ := ho.drop (int_keyed Try.underlying3) Try.underlying58 (key_int k hk) ty
  obtain ⟨b1, b2, b3⟩ := bit_off m hm k hk ht
  refine ⟨w', hrun, ⟨n, _, ho', hn, fun j hj => ?_, fun j hj hjt => ?_, ?_⟩, hg.grown⟩
  · rw [b3 j hj]
    by_cases h1 : j = k
    · subst h1
      rw [has_del_same, if_pos rfl]
    · rw [has_del_other (key_ne h1), ha j hj, if_neg h1]
  · rw [b3 j hj] at hjt
    by_cases h1 : j = k
    · rw [if_pos h1] at hjt; cases hjt
    · rw [if_neg h1] at hjt
      rw [atKey_del_other (key_ne h1), hb j hj hjt]
  · have := size_del (k := Lit.int .i64 (k : Int)) (ho.tidy (int_keyed Try.underlying3))
    rw [ha k hk, ht, hs, if_pos rfl] at this
    omega
theorem in_delete_not {w : World} {bm i m : Nat} {r : List Nat} (h : InAt w bm i m r) (k : Nat) (ty : TypeId) (hk : k < 4) (ht : m.testBit k = false) :
    ∃ w', (Builtin.delete_ #[58, 3] ty #[.map (some bm), .int .i64 k]).run Try.prog w = .ok (.tuple #[]) w' ∧ InAt w' bm i m r ∧ w.grownBy w' (some bm) := by
  obtain ⟨n, D, ho, hn, ha, hb, hs⟩ := h
  obtain ⟨w', hrun, ho', hg⟩ := ho.drop (int_keyed Try.underlying3) Try.underlying58 (key_int k hk) ty
  rw [del_of_not_has (by rw [ha k hk, ht])] at ho'
  exact ⟨w', hrun, ⟨n, _, ho', hn, ha, hb, hs⟩, hg.grown⟩
theorem in_len {w : World} {bm i m : Nat} {r : List Nat} (h : InAt w bm i m r) (ty : TypeId) : (Builtin.len_ #[58] ty #[.map (some bm)]).run Try.prog w = .ok (.int .i64 (cntD m 4 0 : Nat)) w := by
  obtain ⟨n, D, ho, hn, ha, hb, hs⟩ := h
  rw [← hs]
  exact ho.len Try.underlying58 ty
theorem InAt.lt {w : World} {bm i m : Nat} {r : List Nat} (h : InAt w bm i m r) : bm < w.heap.size := by
  obtain ⟨n, D, ho, _⟩ := h
  exact ho.lt
theorem InAt.chg {w w' : World} {bm i m : Nat} {r : List Nat} (h : InAt w bm i m r) {T : Nat → Prop} (hc : Chg T w w') (hT : ¬ T bm) : InAt w' bm i m r := by
  have hlt := h.lt
  obtain ⟨n, D, ⟨es, clock, hb, hf, hs, hD⟩, hn, ha⟩ := h
  exact ⟨n, D, ⟨es, clock, (hc.block bm hlt hT).trans hb, hf, hs, hD⟩, hn, ha⟩
theorem InAt.mono {w : World} {bm i j m : Nat} {r : List Nat} (h : InAt w bm i m r) (hj : i ≤ j) : InAt w bm j m r := by
  obtain ⟨n, D, ho, hn, ha⟩ := h
  exact ⟨n, D, ho, Nat.le_trans hn hj, ha⟩
theorem chg_of_grown {w w' : World} {b : Nat} (h : w.grownBy w' (some b)) : Chg (fun k => k = b) w w' := ⟨h.os, h.tape, h.output, h.size, fun k hk hn => h.block k hk (fun e => hn (by injection e))⟩
end Go.Proofs.Ytjmooohhndjmiaa
