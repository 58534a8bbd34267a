/- GateSteps: what the appends do. -/
import Derived.Test.YtjmooohhndjmiaaGsS
import Derived.Maps.AppendAt
namespace Go.Proofs.Ytjmooohhndjmiaa
open Go.RowKit Go.Deep
set_option linter.unusedVariables false
set_option linter.unusedSimpArgs false

theorem info_ref : (Try.prog.info? 44).map (fun i => (i.zero, i.size, i.bytes)) = some (some (.agg #[.int .i64 0, .int .i64 0, .int .i64 0, .int .i64 0, .int .i64 0, .int .u64 0, .int .u64 0, .int .i64 0]), 8, 64) := by kernel_rfl
theorem info_opp : (Try.prog.info? 45).map (fun i => (i.zero, i.size, i.bytes)) = some (some (.pointer none), 1, 8) := by kernel_rfl
variable {W w w' : World} {χ : Nat → Nat} {m : HMap} {c0 M b bw bb bx gw gb : Nat} {v7 v8 : Value} {ws xs ps : List Nat} {es : List Ent}
theorem St.ne7 (h : St W w χ m c0 M b bw bb bx gw gb v7 v8 ws xs ps es) {k : Nat} (hk : χ k = 0) : some k ≠ v7.ownBlock := by
  intro hek
  rcases h.r7 with ⟨hv, _⟩ | ⟨g', cap', cur', hv, hm', _⟩
  · rw [hv] at hek; simp [Value.ownBlock] at hek
  · rw [hv] at hek
    have : k = g' := by simpa [Value.ownBlock] using hek
    subst this
    obtain ⟨_, hx, _⟩ := h.hp.has _ _ _ _ hm'
    omega
theorem St.marks (h : St W w χ m c0 M b bw bb bx gw gb v7 v8 ws xs ps es) : χ b = 2 ∧ χ bw = 3 ∧ χ bx = 5 ∧ χ gw = 6 ∧ χ gb = 9 := by
  obtain ⟨⟨_, _, _, _, _, _, h0⟩, h1, _⟩ := h.mem
  obtain ⟨⟨_, _, _, _, _, _, _, h2⟩, ⟨_, h3⟩, h4, _⟩ := h.ref
  exact ⟨(h.hp.has _ _ _ _ h0).2.1, (h.hp.has _ _ _ _ h1).2.1, (h.hp.has _ _ _ _ h2).2.1, (h.hp.has _ _ _ _ h3).2.1, (h.hp.has _ _ _ _ h4).2.1⟩
theorem St.mark7 {g n cap : Nat} (h : St W w χ m c0 M b bw bb bx gw gb (.slice (some ⟨g, 0, none⟩) n cap) v8 ws xs ps es) (hn : 0 < ps.length) : χ g = 7 := by
  obtain ⟨g', cap', cur, hv, hm, _⟩ := h.pos7 hn
  have hg : g = g' := by injection hv with h1; injection h1 with h1; injection h1
  subst hg
  exact (h.hp.has _ _ _ _ hm).2.1
theorem St.mark8 {g n cap : Nat} (h : St W w χ m c0 M b bw bb bx gw gb v7 (.slice (some ⟨g, 0, none⟩) n cap) ws xs ps es) (hn : 0 < es.length) : χ g = 8 := by
  obtain ⟨g', cap', cur, hv, hm, _⟩ := h.pos8 hn
  have hg : g = g' := by injection hv with h1; injection h1 with h1; injection h1
  subst hg
  exact (h.hp.has _ _ _ _ hm).2.1
theorem St.markE (h : St W w χ m c0 M b bw bb bx gw gb v7 v8 ws xs ps es) {t : Nat} {e : Ent} (he : es[t]? = some e) : χ e.bo = 20 + t := (h.hp.has _ _ _ _ (h.ent t e he).1).2.1
/-- eight cells of a row are set. -/
theorem set8At {w : World} {b k : Nat} {ty : TypeId} {cs : List Value} (h : Blk w b ty cs) (v0 v1 v2 v3 v4 v5 v6 v7 : Value) :
    Blk ((((((((w.setCell ⟨b, k, none⟩ v0).setCell ⟨b, k + 1, none⟩ v1).setCell ⟨b, k + 2, none⟩ v2).setCell ⟨b, k + 3, none⟩ v3).setCell ⟨b, k + 4, none⟩ v4).setCell ⟨b, k + 5, none⟩ v5).setCell ⟨b, k + 6, none⟩ v6).setCell ⟨b, k + 7, none⟩ v7) b ty (setFrom cs k [v0, v1, v2, v3, v4, v5, v6, v7]) ∧
      Chg (fun j => j = b) w ((((((((w.setCell ⟨b, k, none⟩ v0).setCell ⟨b, k + 1, none⟩ v1).setCell ⟨b, k + 2, none⟩ v2).setCell ⟨b, k + 3, none⟩ v3).setCell ⟨b, k + 4, none⟩ v4).setCell ⟨b, k + 5, none⟩ v5).setCell ⟨b, k + 6, none⟩ v6).setCell ⟨b, k + 7, none⟩ v7) := by
  constructor
  · exact (((((((h.set k v0).set (k + 1) v1).set (k + 2) v2).set (k + 3) v3).set (k + 4) v4).set (k + 5) v5).set (k + 6) v6).set (k + 7) v7
  · have step : ∀ (W : World) (i : Nat) (v : Value), Chg (fun j => j = b) w W → Chg (fun j => j = b) w (W.setCell ⟨b, i, none⟩ v) := fun W i v hc => hc.setCell ⟨b, i, none⟩ v (fun _ => rfl)
    exact step _ _ _ (step _ _ _ (step _ _ _ (step _ _ _ (step _ _ _ (step _ _ _ (step _ _ _ (step _ _ _ (Chg.refl _ _))))))))
theorem blk_grown {g : Nat} {ty : TypeId} {cs : List Value} {row : Option Nat} (ho : Blk w g ty cs) (hg : w.grownBy w' row) (h1 : some g ≠ row) : Blk w' g ty cs := (hg.block g ho.lt h1).trans ho
theorem cell_one_new2 (W : World) (t : TypeId) (u : Value) : ∀ j v, [u][j]? = some v → (W.alloc (.cells #[u] t)).cell? ((⟨W.heap.size, 0, none⟩ : Addr).add j) = some v := fun j v hv => by
  rw [add_none, Nat.zero_add, (blk_new W t #[u] [u] rfl).cell]; exact hv
/-- 'ops = append(ops, o)'. -/
theorem St.run7 (h : St W w χ m c0 M b bw bb bx gw gb v7 v8 ws xs ps es) (hn : ps.length ≤ 64) (p : Nat) :
    ∃ v' w1, (Builtin.append_ #[38, 38] 38 #[v7, .slice (some ⟨w.heap.size, 0, none⟩) 1 1]).run Try.prog (w.alloc (.cells #[.pointer (some ⟨p, 0, none⟩)] 45)) = .ok v' w1 ∧
      w1.ownsRow W.heap.size 45 1 v' (ps.length + 1) (ptrs ps ++ [.pointer (some ⟨p, 0, none⟩)]) ∧ (w.alloc (.cells #[.pointer (some ⟨p, 0, none⟩)] 45)).grownBy w1 v7.ownBlock ∧ (v'.ownBlock = v7.ownBlock ∨ v'.ownBlock = some (w.alloc (.cells #[.pointer (some ⟨p, 0, none⟩)] 45)).heap.size) := by
  obtain ⟨i0, hi, hz⟩ := Option.map_eq_some_iff.1 info_opp
  simp only [Prod.mk.injEq] at hz
  obtain ⟨hz0, hz1, hz2⟩ := hz
  obtain ⟨v', w1, hrun, hown', hg, _, hs⟩ := run_append_own_at (P := Try.prog) (w.alloc (.cells #[.pointer (some ⟨p, 0, none⟩)] 45)) W.heap.size 38 38 45 i0 (.pointer none) 1 8 Try.underlying38 hi hz0 hz1 hz2 rfl (by decide) v7 ps.length (ptrs ps)
    (RowIn.owns (h.alloc _).hp h.r7) ⟨w.heap.size, 0, none⟩ 1 1 [.pointer (some ⟨p, 0, none⟩)] rfl (cell_one_new2 _ _ _) (by simp; rfl) (by simp [maxLen]; omega) (by omega) (by have := h.hp.below.size; simp; omega)
  exact ⟨v', w1, hrun, hown', hg, hs⟩
/-- 'own = append(own, o)'. -/
theorem St.run8 (h : St W w χ m c0 M b bw bb bx gw gb v7 v8 ws xs ps es) (hn : es.length ≤ 64) (e : Ent) :
    ∃ v' w1, (Builtin.append_ #[39, 39] 39 #[v8, .slice (some ⟨w.heap.size, 0, none⟩) 1 1]).run Try.prog (w.alloc (.cells e.vals.toArray 44)) = .ok v' w1 ∧
      w1.ownsRow W.heap.size 44 8 v' (es.length + 1) (es.flatMap Ent.vals ++ e.vals) ∧ (w.alloc (.cells e.vals.toArray 44)).grownBy w1 v8.ownBlock ∧ (v'.ownBlock = v8.ownBlock ∨ v'.ownBlock = some (w.alloc (.cells e.vals.toArray 44)).heap.size) := by
  obtain ⟨i0, hi, hz⟩ := Option.map_eq_some_iff.1 info_ref
  simp only [Prod.mk.injEq] at hz
  obtain ⟨hz0, hz1, hz2⟩ := hz
  have hnew : ∀ j u, e.vals[j]? = some u → (w.alloc (.cells e.vals.toArray 44)).cell? ((⟨w.heap.size, 0, none⟩ : Addr).add j) = some u := fun j u hu => by
    rw [add_none, Nat.zero_add, (blk_new w 44 e.vals.toArray e.vals rfl).cell]; exact hu
  obtain ⟨v', w1, hrun, hown', hg, _, hs⟩ := run_append_own_at (P := Try.prog) (w.alloc (.cells e.vals.toArray 44)) W.heap.size 39 39 44 i0 _ 8 64 Try.underlying39 hi hz0 hz1 hz2 rfl (by decide) v8 es.length (es.flatMap Ent.vals)
    (RowIn.owns (h.alloc _).hp h.r8) ⟨w.heap.size, 0, none⟩ 1 1 e.vals rfl hnew (by simp only [Ent.vals, ROp.vals]; intro u hu; simp only [List.mem_cons, List.not_mem_nil, or_false] at hu; rcases hu with rfl | rfl | rfl | rfl | rfl | rfl | rfl | rfl <;> rfl) (by simp [maxLen]; omega) (by omega) (by have := h.hp.below.size; simp; omega)
  exact ⟨v', w1, hrun, hown', hg, hs⟩
end Go.Proofs.Ytjmooohhndjmiaa
