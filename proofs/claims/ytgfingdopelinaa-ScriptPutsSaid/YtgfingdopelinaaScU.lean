/- where Read stands: its blocks, its rows, its reader. -/
import Derived.Test.YtgfingdopelinaaScT
namespace Go.Proofs.Ytgfingdopelinaa
set_option linter.unusedSimpArgs false
set_option linter.unusedVariables false
open Go.RowKit Go.Deep

def ints (l : List Int) : List Value := l.map fun z => Value.int .i64 z
theorem ints_len (l : List Int) : (ints l).length = l.length := by simp [ints]
def ents (l : List En) : List Value := l.flatMap En.vals
theorem ents_len (l : List En) : (ents l).length = l.length * 9 := by
  induction l with
  | nil => rfl
  | cons e t ih => unfold ents at *; rw [List.flatMap_cons, List.length_append, ih, List.length_cons]; unfold En.vals; simp; omega
theorem ents_app (a b : List En) : ents (a ++ b) = ents a ++ ents b := by unfold ents; rw [List.flatMap_append]
theorem ints_app (a b : List Int) : ints (a ++ b) = ints a ++ ints b := by unfold ints; rw [List.map_append]
theorem info_int : (Try.prog.info? 3).map (fun i => (i.zero, i.size, i.bytes)) = some (some (.int .i64 0), 1, 8) := by kernel_rfl
theorem info_entry : (Try.prog.info? 34).map (fun i => (i.zero, i.size, i.bytes)) = some (some (.agg #[.int .i64 0, .bool false, .int .i64 0, .int .i64 0, .int .i64 0, .int .u64 0, .int .i64 0, .string noText, .int .u64 0]), 9, 80) := by kernel_rfl
def szero : List Value := [.int .i64 0, .slice none 0 0, .int .i64 0, .int .i64 0, .int .i64 0, .slice none 0 0]

structure RS (w W : World) (q0 : Nat) (cs : List Value) (r : List Nat × Bool) (vT : Value) (zs : List Int) (vE : Value) (es : List En) : Prop where
  res : Blk W q0 46 szero
  scr : Blk W (q0 + 2) 46 cs
  rd : RdAt W (q0 + 1) r
  bel : Below q0 w W
  q : q0 = w.heap.size
  ownT : W.ownsRow (q0 + 3) 3 1 vT zs.length (ints zs)
  ownE : W.ownsRow (q0 + 3) 34 9 vE es.length (ents es)
  ne : ∀ j, vT.ownBlock = some j → vE.ownBlock ≠ some j
  cs8 : ∀ v ∈ cs, ∀ x, v ≠ .int .u8 x
variable {w W W' : World} {q0 : Nat} {cs : List Value} {r r' : List Nat × Bool} {vT vE : Value} {zs : List Int} {es : List En}
theorem own_chg' {S : Nat → Prop} {base : Nat} {e : TypeId} {v : Value} {n size : Nat} {xs : List Value} (h : W.ownsRow base e size v n xs) (hc : Chg S W W') (hs : ∀ j, v.ownBlock = some j → ¬ S j) : W'.ownsRow base e size v n xs := by
  refine ⟨h.1, ?_⟩
  rcases h.2 with h0 | ⟨g, cap, cur, rfl, h1, h2, h3⟩
  · exact .inl h0
  · exact .inr ⟨g, cap, cur, rfl, h1, (hc.block g (Array.getElem?_eq_some_iff.1 h2).1 (hs g rfl)).trans h2, h3⟩
theorem RS.call (h : RS w W q0 cs r vT zs vE es) (hc : Chg (fun j => j = q0 + 1) W W') (hr : RdAt W' (q0 + 1) r') : RS w W' q0 cs r' vT zs vE es :=
  ⟨h.res.chg hc (by omega), h.scr.chg hc (by omega), hr, hc.below h.bel (by have := h.bel.size; have := h.q; omega) (fun k hk => by omega), h.q, own_chg' h.ownT hc (fun j hj e => by have := (h.ownT.lt j hj).1; omega), own_chg' h.ownE hc (fun j hj e => by have := (h.ownE.lt j hj).1; omega), h.ne, h.cs8⟩
theorem RS.drew (h : RS w W q0 cs r vT zs vE es) : RS w W.drew q0 cs r vT zs vE es :=
  ⟨h.res.drew, h.scr.drew, h.rd.below (Below.refl _ _).drew, h.bel.drew, h.q, h.ownT, h.ownE, h.ne, h.cs8⟩
theorem RS.mem (h : RS w W q0 cs r vT zs vE es) (hb : Below W.heap.size W W') : RS w W' q0 cs r vT zs vE es :=
  h.call (chg_of_below _ hb) (h.rd.below hb)
/-- a store into the script. -/
theorem RS.set (h : RS w W q0 cs r vT zs vE es) (i : Nat) (u : Value) (hu : ∀ x, u ≠ .int .u8 x) : RS w (W.setCell ⟨q0 + 2, i, none⟩ u) q0 (cs.set i u) r vT zs vE es := by
  have hc : Chg (fun j => j = q0 + 2) W (W.setCell ⟨q0 + 2, i, none⟩ u) := (Chg.refl _ W).setCell _ _ (fun _ => rfl)
  refine ⟨h.res.chg hc (by omega), h.scr.set i u, h.rd.chg hc (by omega) (fun k _ e o x => ?_), hc.below h.bel (by have := h.bel.size; have := h.q; omega) (fun k hk => by omega), h.q, own_chg' h.ownT hc (fun j hj e => by have := (h.ownT.lt j hj).1; omega), own_chg' h.ownE hc (fun j hj e => by have := (h.ownE.lt j hj).1; omega), h.ne, fun v hv x => ?_⟩
  · subst e
    rw [h.scr.cell]
    intro hv
    exact h.cs8 _ (List.mem_of_getElem? hv) x rfl
  · rcases List.mem_or_eq_of_mem_set hv with h1 | h1
    · exact h.cs8 v h1 x
    · rw [h1]; exact hu x
/-- 'append(topics, z)' in new memory. -/
theorem appT_run (W0 : World) (base : Nat) (v : Value) (xs : List Int) (z : Int) (hown : W0.ownsRow base 3 1 v xs.length (ints xs)) (hbase : base ≤ W0.heap.size) (hlen : xs.length + 1 ≤ 1048576) :
    ∃ v' w', (Builtin.append_ #[22, 22] 22 #[v, .slice (some ⟨W0.heap.size, 0, none⟩) 1 1]).run Try.prog (W0.alloc (.cells #[.int .i64 z] 3)) = .ok v' w' ∧ w'.ownsRow base 3 1 v' (xs ++ [z]).length (ints (xs ++ [z])) ∧ Chg (fun j => v.ownBlock = some j) W0 w' ∧ (v'.ownBlock = v.ownBlock ∨ ∃ j, v'.ownBlock = some j ∧ W0.heap.size ≤ j) := by
  obtain ⟨i0, hi, hz⟩ := Option.map_eq_some_iff.1 info_int
  simp only [Prod.mk.injEq] at hz
  obtain ⟨hz0, hz1, hz2⟩ := hz
  obtain ⟨v', w', hr, a1, a2, _, a3⟩ := run_append_own_at (P := Try.prog) (W0.alloc (.cells #[.int .i64 z] 3)) base 22 22 3 i0 (.int .i64 0) 1 8 Try.underlying22 hi hz0 hz1 hz2 rfl (by decide) v xs.length (ints xs) (hown.alloc _) ⟨W0.heap.size, 0, none⟩ 1 1 [.int .i64 z] rfl
    (by intro j u hu; rw [add_none, Nat.zero_add, (Blk.new W0 _ [_]).cell]; exact hu) (by intro u hu; simp at hu; subst hu; rfl) (by simp [maxLen]; omega) (by omega) (by simp; omega)
  refine ⟨v', w', by simpa using hr, ?_, ((Chg.refl _ W0).alloc _).trans (own_chg a2) (fun _ _ h => h), a3.imp id (fun h => ⟨_, h, by simp⟩)⟩
  rw [ints_app, List.length_append]
  exact a1
theorem appE_run (W0 : World) (base : Nat) (v : Value) (xs : List En) (z : En) (hown : W0.ownsRow base 34 9 v xs.length (ents xs)) (hbase : base ≤ W0.heap.size) (hlen : xs.length + 1 ≤ 1048576) :
    ∃ v' w', (Builtin.append_ #[25, 25] 25 #[v, .slice (some ⟨W0.heap.size, 0, none⟩) 1 1]).run Try.prog (W0.alloc (.cells z.vals.toArray 34)) = .ok v' w' ∧ w'.ownsRow base 34 9 v' (xs ++ [z]).length (ents (xs ++ [z])) ∧ Chg (fun j => v.ownBlock = some j) W0 w' ∧ (v'.ownBlock = v.ownBlock ∨ ∃ j, v'.ownBlock = some j ∧ W0.heap.size ≤ j) := by
  obtain ⟨i0, hi, hz⟩ := Option.map_eq_some_iff.1 info_entry
  simp only [Prod.mk.injEq] at hz
  obtain ⟨hz0, hz1, hz2⟩ := hz
  obtain ⟨v', w', hr, a1, a2, _, a3⟩ := run_append_own_at (P := Try.prog) (W0.alloc (.cells z.vals.toArray 34)) base 25 25 34 i0 _ 9 80 Try.underlying25 hi hz0 hz1 hz2 rfl (by decide) v xs.length (ents xs) (hown.alloc _) ⟨W0.heap.size, 0, none⟩ 1 1 z.vals rfl
    (by intro j u hu; rw [add_none, Nat.zero_add, (Blk.new W0 _ z.vals).cell]; exact hu) (by intro u hu; unfold En.vals at hu; simp at hu; rcases hu with rfl | rfl | rfl | rfl | rfl | rfl | rfl | rfl | rfl <;> rfl) (by simp [maxLen]; omega) (by omega) (by simp; omega)
  refine ⟨v', w', by simpa using hr, ?_, ((Chg.refl _ W0).alloc _).trans (own_chg a2) (fun _ _ h => h), a3.imp id (fun h => ⟨_, h, by simp⟩)⟩
  rw [ents_app, List.length_append]
  have e : ents [z] = z.vals := by simp [ents]
  rw [e]
  exact a1
theorem ints8 (l : List Int) : ∀ v ∈ ints l, ∀ x, v ≠ .int .u8 x := by
  intro v hv x
  unfold ints at hv
  obtain ⟨z, _, rfl⟩ := List.mem_map.1 hv
  simp
theorem ents8 (l : List En) : ∀ v ∈ ents l, ∀ x, v ≠ .int .u8 x := by
  intro v hv x
  unfold ents at hv
  obtain ⟨z, _, hv⟩ := List.mem_flatMap.1 hv
  unfold En.vals at hv
  simp at hv
  rcases hv with rfl | rfl | rfl | rfl | rfl | rfl | rfl | rfl | rfl <;> simp
/-- the row of topics has grown. -/
theorem RS.topics {W1 : World} {v' : Value} {zs' : List Int} (h : RS w W q0 cs r vT zs vE es) (hown : W1.ownsRow (q0 + 3) 3 1 v' zs'.length (ints zs')) (hc : Chg (fun j => vT.ownBlock = some j) W W1) (hb : v'.ownBlock = vT.ownBlock ∨ ∃ j, v'.ownBlock = some j ∧ W.heap.size ≤ j) : RS w W1 q0 cs r v' zs' vE es :=
  ⟨h.res.chg hc (fun e => by have := (h.ownT.lt _ e).1; omega), h.scr.chg hc (fun e => by have := (h.ownT.lt _ e).1; omega), h.rd.after hc (fun k hk => by have := (h.ownT.lt _ hk).1; omega), hc.below h.bel (by have := h.bel.size; have := h.q; omega) (fun k hk => by have := (h.ownT.lt _ hk).1; omega), h.q, hown,
    own_chg' h.ownE hc (fun j hj e => h.ne j e hj), fun j hj e => by
      rcases hb with h1 | ⟨i, h1, h2⟩
      · exact h.ne j (h1 ▸ hj) e
      · rw [hj] at h1; injection h1 with h1; have := (h.ownE.lt j e).2; omega, h.cs8⟩
theorem RS.entries {W1 : World} {v' : Value} {es' : List En} (h : RS w W q0 cs r vT zs vE es) (hown : W1.ownsRow (q0 + 3) 34 9 v' es'.length (ents es')) (hc : Chg (fun j => vE.ownBlock = some j) W W1) (hb : v'.ownBlock = vE.ownBlock ∨ ∃ j, v'.ownBlock = some j ∧ W.heap.size ≤ j) : RS w W1 q0 cs r vT zs v' es' :=
  ⟨h.res.chg hc (fun e => by have := (h.ownE.lt _ e).1; omega), h.scr.chg hc (fun e => by have := (h.ownE.lt _ e).1; omega), h.rd.after hc (fun k hk => by have := (h.ownE.lt _ hk).1; omega), hc.below h.bel (by have := h.bel.size; have := h.q; omega) (fun k hk => by have := (h.ownE.lt _ hk).1; omega), h.q,
    own_chg' h.ownT hc (fun j hj e => h.ne j hj e), hown, fun j hj e => by
      rcases hb with h1 | ⟨i, h1, h2⟩
      · exact h.ne j hj (h1 ▸ e)
      · rw [e] at h1; injection h1 with h1; have := (h.ownT.lt j hj).2; omega, h.cs8⟩
/-- what Read starts from. -/
theorem RS.start {A : Option Addr} {n cap : Nat} {bs : List Nat} (hs : BsAt w A n cap bs) (hA : 0 < n → AtLt A w.heap.size) :
    RS w (((w.alloc (.cells szero.toArray 46)).alloc (.cells #[.slice A n cap, .bool false] 67)).alloc (.cells szero.toArray 46)) w.heap.size szero (bs, false) (.slice none 0 0) [] (.slice none 0 0) [] := by
  have hb : Below w.heap.size w (((w.alloc (.cells szero.toArray 46)).alloc (.cells #[.slice A n cap, .bool false] 67)).alloc (.cells szero.toArray 46)) := bnew (bnew (bnew (Below.refl _ _) _) _) _
  refine ⟨((Blk.new w _ szero).alloc _).alloc _, ?_, ⟨A, n, cap, ?_, hs.below hb, fun h a e => by have := hA h a e; omega⟩, hb, rfl, World.ownsRow_nil _ _ _ _, World.ownsRow_nil _ _ _ _, (fun j e => by cases e), fun v hv x => by unfold szero at hv; simp at hv; rcases hv with rfl | rfl | rfl | rfl | rfl | rfl <;> simp⟩
  · have h := Blk.new ((w.alloc (.cells szero.toArray 46)).alloc (.cells #[.slice A n cap, .bool false] 67)) 46 szero
    simpa using h
  · have h := (Blk.new (w.alloc (.cells szero.toArray 46)) 67 [.slice A n cap, .bool false]).alloc (.cells szero.toArray 46)
    simpa using h
end Go.Proofs.Ytgfingdopelinaa
