/- CursorSteps: what the appends do. -/
import Derived.Test.YtobdpieijgiaoaaStepsS
import Derived.Maps.AppendAt
namespace Go.Proofs.Ytobdpieijgiaoaa
open Go.RowKit Go.Deep

theorem info_ref : (Try.prog.info? 62).map (fun i => (i.zero, i.size, i.bytes)) = some (some (.agg #[.int .i64 0, .int .i64 0, .int .i64 0, .slice none 0 0, .int .i64 0, .int .i64 0, .int .u64 0, .int .u64 0, .int .i64 0]), 9, 88) := by kernel_rfl
theorem info_opp : (Try.prog.info? 29).map (fun i => (i.zero, i.size, i.bytes)) = some (some (.pointer none), 1, 8) := by kernel_rfl

/-- 'append([]int{}, w...)'. -/
theorem copy_run (w0 : World) (wv : Value) (words : List Nat) (hn : words.length ≤ 64) (hv : (wv = .slice none 0 0 ∧ words = []) ∨ ∃ ad c, wv = .slice (some ad) words.length c ∧ ∀ j v, (intVals (words.map fun x : Nat => (x : Int)))[j]? = some v → w0.cell? (ad.add j) = some v) :
    ∃ bq cq w1 rest, (Builtin.append_ #[34, 34] 34 #[.slice (some ⟨w0.heap.size, 0, none⟩) 0 0, wv]).run Try.prog (w0.alloc (.cells #[] 3)) = .ok (.slice (some ⟨bq, 0, none⟩) words.length cq) w1 ∧
      Blk w1 bq 3 (intVals (words.map fun x : Nat => (x : Int)) ++ rest) ∧ w0.heap.size ≤ bq ∧ Below w0.heap.size w0 w1 := by
  obtain ⟨i0, hi, hz⟩ := Option.map_eq_some_iff.1 info_int
  simp only [Prod.mk.injEq] at hz
  obtain ⟨hz0, hz1, hz2⟩ := hz
  have hown := World.ownsRow_made (base := w0.heap.size) (size := 1) (e := 3) w0 #[] 0 (Nat.le_refl _) (Nat.zero_le _) rfl
  have h0 : wv = .slice none 0 0 → words = [] → ∃ bq cq w1 rest, (Builtin.append_ #[34, 34] 34 #[.slice (some ⟨w0.heap.size, 0, none⟩) 0 0, wv]).run Try.prog (w0.alloc (.cells #[] 3)) = .ok (.slice (some ⟨bq, 0, none⟩) words.length cq) w1 ∧
      Blk w1 bq 3 (intVals (words.map fun x : Nat => (x : Int)) ++ rest) ∧ w0.heap.size ≤ bq ∧ Below w0.heap.size w0 w1 := by
    rintro rfl rfl
    exact ⟨w0.heap.size, 0, _, [], run_append_owned_none _ w0.heap.size _ _ _ i0 1 Try.underlying34 hi _ 0 [] hown, by simpa [intVals] using blk_new w0 3 #[] [] rfl, Nat.le_refl _, bnew (Below.refl _ _) _⟩
  rcases hv with ⟨h1, h2⟩ | ⟨ad, c, rfl, hc⟩
  · exact h0 h1 h2
  · have hone : ∀ v ∈ intVals (words.map fun x : Nat => (x : Int)), v.oneCell' = true := by
      intro v hv
      simp [intVals] at hv
      obtain ⟨z, _, rfl⟩ := hv
      rfl
    obtain ⟨v', w1, hrun, hown', hg, hnil, hs⟩ := run_append_own_at (P := Try.prog) (w0.alloc (.cells #[] 3)) w0.heap.size 34 34 3 i0 (.int .i64 0) 1 8 Try.underlying34 hi hz0 hz1 hz2 rfl (by decide) _ 0 [] hown ad words.length c (intVals (words.map fun x : Nat => (x : Int)))
      (by simp [intVals]) (fun j u hu => kalloc _ (hc j u hu)) hone (by simp [maxLen]; omega) (by omega) (by simp)
    obtain ⟨hl, hcase⟩ := hown'
    rcases hcase with ⟨hv', _⟩ | ⟨g, cap, cur, rfl, hb, hh, h3, h4, h5, h6⟩
    · have := (hnil.1 hv').1
      simp at this
    · refine ⟨g, cap, w1, cur.toList.drop (words.length * 1), by simpa using hrun, ?_, hb, ?_⟩
      · have h6' : cur.toList.take (words.length * 1) = intVals (words.map fun x : Nat => (x : Int)) := by simpa using h6
        rw [← h6', List.take_append_drop]
        unfold Blk
        simpa using hh
      · exact (bnew (Below.refl _ _) _).grown hg (by simp) (fun k hk => by
          have : k = w0.heap.size := by simpa [Value.ownBlock] using hk.symm
          omega)
variable {W w w' : World} {χ : Nat → Nat} {m : HMap} {c0 s ba b bw bb bx gw gb : Nat} {v7 v8 : Value} {ws xs ps : List Nat} {es : List Ent}
theorem St.ne7 (h : St W w χ m c0 s ba b bw bb bx gw gb v7 v8 ws xs ps es) {k : Nat} (hk : χ k = 0) : some k ≠ v7.ownBlock := by
  intro hek
  rcases h.r7 with ⟨hv, _⟩ | ⟨g', cap', cur', hv, hm', _⟩
  · rw [hv] at hek; simp [Value.ownBlock] at hek
  · rw [hv] at hek
    have : k = g' := by simpa [Value.ownBlock] using hek
    subst this
    obtain ⟨_, hx, _⟩ := h.hp.has _ _ _ _ hm'
    omega
theorem St.marks (h : St W w χ m c0 s ba b bw bb bx gw gb v7 v8 ws xs ps es) : χ b = 2 ∧ χ bw = 3 ∧ χ bx = 5 ∧ χ gw = 6 ∧ χ gb = 9 := by
  obtain ⟨⟨_, _, _, _, _, _, h0⟩, h1, _⟩ := h.mem
  obtain ⟨⟨_, _, _, _, _, _, _, h2⟩, ⟨_, h3⟩, h4, _⟩ := h.ref
  exact ⟨(h.hp.has _ _ _ _ h0).2.1, (h.hp.has _ _ _ _ h1).2.1, (h.hp.has _ _ _ _ h2).2.1, (h.hp.has _ _ _ _ h3).2.1, (h.hp.has _ _ _ _ h4).2.1⟩
theorem St.mark7 {g n cap : Nat} (h : St W w χ m c0 s ba b bw bb bx gw gb (.slice (some ⟨g, 0, none⟩) n cap) v8 ws xs ps es) (hn : 0 < ps.length) : χ g = 7 := by
  obtain ⟨g', cap', cur, hv, hm, _⟩ := h.pos7 hn
  have hg : g = g' := by injection hv with h1; injection h1 with h1; injection h1
  subst hg
  exact (h.hp.has _ _ _ _ hm).2.1
theorem St.mark8 {g n cap : Nat} (h : St W w χ m c0 s ba b bw bb bx gw gb v7 (.slice (some ⟨g, 0, none⟩) n cap) ws xs ps es) (hn : 0 < es.length) : χ g = 8 := by
  obtain ⟨g', cap', cur, hv, hm, _⟩ := h.pos8 hn
  have hg : g = g' := by injection hv with h1; injection h1 with h1; injection h1
  subst hg
  exact (h.hp.has _ _ _ _ hm).2.1
theorem St.markE (h : St W w χ m c0 s ba b bw bb bx gw gb v7 v8 ws xs ps es) {t : Nat} {e : Ent} (he : es[t]? = some e) : χ e.bo = 20 + 3 * t := (h.hp.has _ _ _ _ (h.ent t e he).1).2.1
/-- nine cells of a row are set. -/
theorem set9At {w : World} {b k : Nat} {ty : TypeId} {cs : List Value} (h : Blk w b ty cs) (v0 v1 v2 v3 v4 v5 v6 v7 v8 : Value) :
    Blk (((((((((w.setCell ⟨b, k, none⟩ v0).setCell ⟨b, k + 1, none⟩ v1).setCell ⟨b, k + 2, none⟩ v2).setCell ⟨b, k + 3, none⟩ v3).setCell ⟨b, k + 4, none⟩ v4).setCell ⟨b, k + 5, none⟩ v5).setCell ⟨b, k + 6, none⟩ v6).setCell ⟨b, k + 7, none⟩ v7).setCell ⟨b, k + 8, none⟩ v8) b ty (setFrom cs k [v0, v1, v2, v3, v4, v5, v6, v7, v8]) ∧
      Chg (fun j => j = b) w (((((((((w.setCell ⟨b, k, none⟩ v0).setCell ⟨b, k + 1, none⟩ v1).setCell ⟨b, k + 2, none⟩ v2).setCell ⟨b, k + 3, none⟩ v3).setCell ⟨b, k + 4, none⟩ v4).setCell ⟨b, k + 5, none⟩ v5).setCell ⟨b, k + 6, none⟩ v6).setCell ⟨b, k + 7, none⟩ v7).setCell ⟨b, k + 8, none⟩ v8) := by
  constructor
  · exact ((((((((h.set k v0).set (k + 1) v1).set (k + 2) v2).set (k + 3) v3).set (k + 4) v4).set (k + 5) v5).set (k + 6) v6).set (k + 7) v7).set (k + 8) v8
  · have step : ∀ (W : World) (i : Nat) (v : Value), Chg (fun j => j = b) w W → Chg (fun j => j = b) w (W.setCell ⟨b, i, none⟩ v) := fun W i v hc => hc.setCell ⟨b, i, none⟩ v (fun _ => rfl)
    exact step _ _ _ (step _ _ _ (step _ _ _ (step _ _ _ (step _ _ _ (step _ _ _ (step _ _ _ (step _ _ _ (step _ _ _ (Chg.refl _ _)))))))))
theorem opAt_grown {bo bwd : Nat} {o : NOp} {row : Option Nat} (ho : OpAt w bo bwd o) (hg : w.grownBy w' row) (h1 : some bo ≠ row) (h2 : some bwd ≠ row) : OpAt w' bo bwd o :=
  ⟨(hg.block bo ho.1.lt h1).trans ho.1, (hg.block bwd ho.2.lt h2).trans ho.2⟩
/-- 'ops = append(ops, o)'. -/
theorem St.run7 (h : St W w χ m c0 s ba b bw bb bx gw gb v7 v8 ws xs ps es) (hn : ps.length ≤ 64) (p : Nat) :
    ∃ v' w1, (Builtin.append_ #[59, 59] 59 #[v7, .slice (some ⟨w.heap.size, 0, none⟩) 1 1]).run Try.prog (w.alloc (.cells #[.pointer (some ⟨p, 0, none⟩)] 29)) = .ok v' w1 ∧
      w1.ownsRow W.heap.size 29 1 v' (ps.length + 1) (ptrs ps ++ [.pointer (some ⟨p, 0, none⟩)]) ∧ (w.alloc (.cells #[.pointer (some ⟨p, 0, none⟩)] 29)).grownBy w1 v7.ownBlock ∧ (v'.ownBlock = v7.ownBlock ∨ v'.ownBlock = some (w.alloc (.cells #[.pointer (some ⟨p, 0, none⟩)] 29)).heap.size) := by
  obtain ⟨i0, hi, hz⟩ := Option.map_eq_some_iff.1 info_opp
  simp only [Prod.mk.injEq] at hz
  obtain ⟨hz0, hz1, hz2⟩ := hz
  obtain ⟨v', w1, hrun, hown', hg, _, hs⟩ := run_append_own_at (P := Try.prog) (w.alloc (.cells #[.pointer (some ⟨p, 0, none⟩)] 29)) W.heap.size 59 59 29 i0 (.pointer none) 1 8 Try.underlying59 hi hz0 hz1 hz2 rfl (by decide) v7 ps.length (ptrs ps)
    (RowIn.owns (h.alloc _).hp h.r7) ⟨w.heap.size, 0, none⟩ 1 1 [.pointer (some ⟨p, 0, none⟩)] rfl (cell_one_new _ _ _) (by simp; rfl) (by simp [maxLen]; omega) (by omega) (by have := h.hp.below.size; simp; omega)
  exact ⟨v', w1, hrun, hown', hg, hs⟩
/-- 'own = append(own, o)'. -/
theorem St.run8 (h : St W w χ m c0 s ba b bw bb bx gw gb v7 v8 ws xs ps es) (hn : es.length ≤ 64) (e : Ent) :
    ∃ v' w1, (Builtin.append_ #[60, 60] 60 #[v8, .slice (some ⟨w.heap.size, 0, none⟩) 1 1]).run Try.prog (w.alloc (.cells e.vals.toArray 62)) = .ok v' w1 ∧
      w1.ownsRow W.heap.size 62 9 v' (es.length + 1) (es.flatMap Ent.vals ++ e.vals) ∧ (w.alloc (.cells e.vals.toArray 62)).grownBy w1 v8.ownBlock ∧ (v'.ownBlock = v8.ownBlock ∨ v'.ownBlock = some (w.alloc (.cells e.vals.toArray 62)).heap.size) := by
  obtain ⟨i0, hi, hz⟩ := Option.map_eq_some_iff.1 info_ref
  simp only [Prod.mk.injEq] at hz
  obtain ⟨hz0, hz1, hz2⟩ := hz
  have hnew : ∀ j u, e.vals[j]? = some u → (w.alloc (.cells e.vals.toArray 62)).cell? ((⟨w.heap.size, 0, none⟩ : Addr).add j) = some u := fun j u hu => by
    rw [add_none, Nat.zero_add, (blk_new w 62 e.vals.toArray e.vals rfl).cell]; exact hu
  obtain ⟨v', w1, hrun, hown', hg, _, hs⟩ := run_append_own_at (P := Try.prog) (w.alloc (.cells e.vals.toArray 62)) W.heap.size 60 60 62 i0 _ 9 88 Try.underlying60 hi hz0 hz1 hz2 rfl (by decide) v8 es.length (es.flatMap Ent.vals)
    (RowIn.owns (h.alloc _).hp h.r8) ⟨w.heap.size, 0, none⟩ 1 1 e.vals rfl hnew (by simp only [Ent.vals, refVals]; intro u hu; simp only [List.mem_cons, List.not_mem_nil, or_false] at hu; rcases hu with rfl | rfl | rfl | rfl | rfl | rfl | rfl | rfl | rfl <;> rfl) (by simp [maxLen]; omega) (by omega) (by have := h.hp.below.size; simp; omega)
  exact ⟨v', w1, hrun, hown', hg, hs⟩
end Go.Proofs.Ytobdpieijgiaoaa
