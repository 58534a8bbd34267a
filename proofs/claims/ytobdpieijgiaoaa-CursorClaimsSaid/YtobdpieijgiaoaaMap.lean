/- a set of numbers below a bound, as a map of the call's own. -/
import Derived.Test.YtobdpieijgiaoaaMisc
import Derived.Maps.Own
import Derived.Maps.OwnSet
import Derived.Maps.Views
namespace Go.Proofs.Ytobdpieijgiaoaa
open Go.RowKit Go.Deep Go.Maps

/-- the map at block bm holds just the numbers below c, each as true. -/
def GotAt (w : World) (bm c : Nat) : Prop :=
  ∃ (n : Nat) (D : DataW Unit), w.ownsMap Try.prog 24 (plainElem Try.prog 4) bm n D ∧ n ≤ c ∧ ∀ j : Nat, j < 18446744073709551616 → D.atKey (.int .u64 j) (.lit (.bool false)) = .lit (.bool (decide (j < c)))
theorem key_u64 (j : Nat) (hj : j < 18446744073709551616) : keyOf Try.prog 24 (.int .u64 j) = some (.int .u64 j) :=
  keyOf_int_mk Try.underlying24 (by simp only [Lit.wf, Bool.and_eq_true, decide_eq_true_eq]; exact ⟨Int.natCast_nonneg j, by show (j : Int) ≤ 18446744073709551615; omega⟩)
theorem plain_bool_inv {v : Value} {z : DataW Unit × List MemPlace} (h : plainElem Try.prog 4 v = some z) : ∃ x, v = .bool x ∧ z = (.lit (.bool x), []) := by
  unfold plainElem at h
  rw [Try.underlying4] at h
  cases v <;> simp at h
  exact ⟨_, rfl, h.symm⟩
theorem got_made (w : World) : GotAt (w.alloc (.map #[] 0)) w.heap.size 0 :=
  ⟨0, .map [], World.ownsMap_made w _ _ _, by omega, fun j _ => by simp [DataW.atKey]⟩
theorem got_lookup {w : World} {bm c : Nat} (h : GotAt w bm c) (j : Nat) (hj : j < 18446744073709551616) :
    (Instr.lookup 47 (.map (some bm)) (.int .u64 j) false).run Try.prog w = .ok (.bool (decide (j < c))) w := by
  obtain ⟨n, D, ho, _, ha⟩ := h
  obtain ⟨v, ps, hrun, hv⟩ := ho.lookup (int_keyed Try.underlying24) Try.underlying47 (z := .bool false) (by exact Try.zeroValue4 w) (plainElem_bool Try.underlying4 false) (key_u64 j hj)
  obtain ⟨x, rfl, hx⟩ := plain_bool_inv hv
  rw [ha j hj] at hx
  simp only [Prod.mk.injEq] at hx
  have : decide (j < c) = x := by have := hx.1; injection this with h1; injection h1
  rw [this]; exact hrun
theorem got_update {w : World} {bm c : Nat} (h : GotAt w bm c) (hc : c < 9223372036854775807) :
    ∃ w', (Instr.mapUpdate 47 (.map (some bm)) (.int .u64 c) (.bool true)).run Try.prog w = .ok () w' ∧ GotAt w' bm (c + 1) ∧ w.grownBy w' (some bm) := by
  obtain ⟨n, D, ho, hn, ha⟩ := h
  obtain ⟨w', hrun, ho', hg⟩ := ho.update (int_keyed Try.underlying24) Try.underlying47 (by simp [maxLen]; omega) (key_u64 c (by omega)) (plainElem_bool Try.underlying4 true)
  refine ⟨w', hrun, ⟨n + 1, _, ho', by omega, fun j hj => ?_⟩, hg⟩
  by_cases h1 : j = c
  · subst h1
    rw [atKey_put_same ho.isMap (by simp [WideAt.IsKeyLit])]
    simp
  · rw [atKey_put_other (by intro h; apply h1; injection h with _ h2; omega), ha j hj]
    congr 2
    rw [Bool.eq_iff_iff]; simp; omega
theorem GotAt.grown {w w' : World} {bm c : Nat} {row : Option Nat} (h : GotAt w bm c) (hg : w.grownBy w' row) (hne : some bm ≠ row) : GotAt w' bm c := by
  obtain ⟨n, D, ho, hn, ha⟩ := h
  exact ⟨n, D, ho.kept hg hne, hn, ha⟩
theorem GotAt.lt {w : World} {bm c : Nat} (h : GotAt w bm c) : bm < w.heap.size := by
  obtain ⟨n, D, ho, _⟩ := h
  exact ho.lt
theorem chg_of_grown {w w' : World} {b : Nat} (h : w.grownBy w' (some b)) : Chg (fun k => k = b) w w' := ⟨h.os, h.tape, h.output, h.size, fun k hk hn => h.block k hk (fun e => hn (by injection e))⟩
theorem GotAt.chg {w w' : World} {bm c : Nat} (h : GotAt w bm c) {T : Nat → Prop} (hc : Chg T w w') (hT : ¬ T bm) : GotAt w' bm c := by
  obtain ⟨n, D, ⟨es, clock, hb, hf, hs, hD⟩, hn, ha⟩ := h
  have hlt : bm < w.heap.size := by
    rcases Nat.lt_or_ge bm w.heap.size with h' | h'
    · exact h'
    · simp [Array.getElem?_eq_none h'] at hb
  exact ⟨n, D, ⟨es, clock, (hc.block bm hlt hT).trans hb, hf, hs, hD⟩, hn, ha⟩
end Go.Proofs.Ytobdpieijgiaoaa
