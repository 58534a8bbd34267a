/- CursorClaims: what stands in the world at the loop's head, and what each event leaves of it. -/
import Derived.Test.YtobdpieijgiaoaaSys
import Derived.Test.YtobdpieijgiaoaaClaimsP
import Derived.Test.YtobdpieijgiaoaaMap
import Derived.Test.YtobdpieijgiaoaaPeek
namespace Go.Proofs.Ytobdpieijgiaoaa
open Go.RowKit Go.Deep

abbrev Slot := Option (Nat × Nat × NOp)
def slotVal : Slot → Value
  | none => .pointer none
  | some (bo, _, _) => .pointer (some ⟨bo, 0, none⟩)
/-- the blocks of the law's own variables. -/
structure ClB (W : World) (c0 b bw bb ba bn bm : Nat) : Prop where
  ga : W.heap.size ≤ ba
  gn : W.heap.size ≤ bn
  gm : W.heap.size ≤ bm
  d1 : ba ≠ c0
  d2 : ba ≠ b
  d3 : ba ≠ bw
  d4 : ba ≠ bb
  d5 : bn ≠ c0
  d6 : bn ≠ b
  d7 : bn ≠ bw
  d8 : bn ≠ bb
  d9 : bm ≠ c0
  e1 : bm ≠ b
  e2 : bm ≠ bw
  e3 : bm ≠ bb
  e4 : ba ≠ bn
  e5 : ba ≠ bm
  e6 : bn ≠ bm
structure SlotOk (W w : World) (c0 s b bw bb ba bn bm w0 w1 w2 : Nat) (many : List Nat) (t : Nat) (bo bwd : Nat) (o : NOp) : Prop where
  op : OpAt w bo bwd o
  cl : ClOp s w0 w1 w2 o
  ap : Apart c0 b bw bb bo bwd
  ge : W.heap.size ≤ bo
  a1 : bo ≠ ba
  a2 : bo ≠ bn
  a3 : bo ≠ bm
  b1 : bwd ≠ ba
  b2 : bwd ≠ bn
  b3 : bwd ≠ bm
  m : many.getD t 0 = o.m
structure ClSt (W w : World) (c0 s b bw bb ba bn bm w0 w1 w2 c : Nat) (slots : List Slot) (many : List Nat) : Prop where
  sys : Sys W w c0 (0 : Nat) (s : Nat) b bw bb [w0, w1, w2]
  blk : ClB W c0 b bw bb ba bn bm
  ops : Blk w ba 45 (slots.map slotVal)
  mny : Blk w bn 46 (intVals (many.map fun x : Nat => (x : Int)))
  got : GotAt w bm c
  ls : slots.length = 4
  lm : many.length = 4
  ok : ∀ (t bo bwd : Nat) (o : NOp), slots[t]? = some (some (bo, bwd, o)) → SlotOk W w c0 s b bw bb ba bn bm w0 w1 w2 many t bo bwd o
  ne : ∀ (t u bo bwd : Nat) (o : NOp) (bo' bwd' : Nat) (o' : NOp), t ≠ u → slots[t]? = some (some (bo, bwd, o)) → slots[u]? = some (some (bo', bwd', o')) → bo ≠ bo' ∧ bo ≠ bwd'
  h1 : w1 ≤ w0
  h2 : w2 ≤ w0

theorem SlotOk.chg {W w w' : World} {c0 s b bw bb ba bn bm w0 w1 w2 t bo bwd : Nat} {many : List Nat} {o : NOp} (h : SlotOk W w c0 s b bw bb ba bn bm w0 w1 w2 many t bo bwd o) {T : Nat → Prop} (hc : Chg T w w') (t1 : ¬ T bo) (t2 : ¬ T bwd) {v0 v1 v2 : Nat} (k0 : w0 ≤ v0) (k1 : w1 ≤ v1) (k2 : w2 ≤ v2) :
    SlotOk W w' c0 s b bw bb ba bn bm v0 v1 v2 many t bo bwd o :=
  ⟨h.op.chg hc t1 t2, h.cl.mono k0 k1 k2, h.ap, h.ge, h.a1, h.a2, h.a3, h.b1, h.b2, h.b3, h.m⟩
/-- nothing of it has changed. -/
theorem ClSt.keep {W w w' : World} {c0 s b bw bb ba bn bm w0 w1 w2 c : Nat} {slots : List Slot} {many : List Nat} (h : ClSt W w c0 s b bw bb ba bn bm w0 w1 w2 c slots many) (hb : Below w.heap.size w w') : ClSt W w' c0 s b bw bb ba bn bm w0 w1 w2 c slots many :=
  have hc := chg_of_below (fun _ => False) hb
  ⟨h.sys.keep hb, h.blk, h.ops.chg hc (fun h => h), h.mny.chg hc (fun h => h), h.got.chg hc (fun h => h), h.ls, h.lm, fun t bo bwd o hs => (h.ok t bo bwd o hs).chg hc (fun h => h) (fun h => h) (Nat.le_refl _) (Nat.le_refl _) (Nat.le_refl _), h.ne, h.h1, h.h2⟩
/-- the memory has changed: the words have risen. -/
theorem ClSt.words {W w w' : World} {c0 s b bw bb ba bn bm w0 w1 w2 c : Nat} {slots : List Slot} {many : List Nat} (h : ClSt W w c0 s b bw bb ba bn bm w0 w1 w2 c slots many) {v0 v1 v2 : Nat} (hc : Chg (fun j => j = b ∨ j = bw) w w') (hm : MemAt w' b bw bb [v0, v1, v2])
    (k0 : w0 ≤ v0) (k1 : w1 ≤ v1) (k2 : w2 ≤ v2) (l1 : v1 ≤ v0) (l2 : v2 ≤ v0) : ClSt W w' c0 s b bw bb ba bn bm v0 v1 v2 c slots many :=
  ⟨h.sys.set hc (fun j hj => by
      rcases hj with rfl | rfl
      · exact ⟨h.sys.g1, h.sys.n1.symm⟩
      · exact ⟨h.sys.g2, h.sys.n2.symm⟩) hm, h.blk, h.ops.chg hc (fun t => t.elim h.blk.d2 h.blk.d3), h.mny.chg hc (fun t => t.elim h.blk.d6 h.blk.d7), h.got.chg hc (fun t => t.elim h.blk.e1 h.blk.e2), h.ls, h.lm,
    fun t bo bwd o hs => by
      have hk := h.ok t bo bwd o hs
      exact hk.chg hc (fun t => t.elim hk.ap.n1 hk.ap.n2) (fun t => t.elim hk.ap.m1 hk.ap.m2) k0 k1 k2, h.ne, l1, l2⟩
/-- one more position is in the map. -/
theorem ClSt.more {W w w' : World} {c0 s b bw bb ba bn bm w0 w1 w2 c : Nat} {slots : List Slot} {many : List Nat} (h : ClSt W w c0 s b bw bb ba bn bm w0 w1 w2 c slots many) (hg : w.grownBy w' (some bm)) (hgot : GotAt w' bm (c + 1)) : ClSt W w' c0 s b bw bb ba bn bm w0 w1 w2 (c + 1) slots many :=
  have hc := chg_of_grown hg
  ⟨h.sys.set hc (fun j hj => by subst hj; exact ⟨h.blk.gm, h.blk.d9⟩) (h.sys.mem.chg hc (fun e => h.blk.e1 e.symm) (fun e => h.blk.e2 e.symm) (fun e => h.blk.e3 e.symm)), h.blk, h.ops.chg hc h.blk.e5, h.mny.chg hc h.blk.e6, hgot, h.ls, h.lm,
    fun t bo bwd o hs => by
      have hk := h.ok t bo bwd o hs
      exact hk.chg hc hk.a3 hk.b3 (Nat.le_refl _) (Nat.le_refl _) (Nat.le_refl _), h.ne, h.h1, h.h2⟩
/-- a slot is emptied. -/
theorem ClSt.clear {W w : World} {c0 s b bw bb ba bn bm w0 w1 w2 c : Nat} {slots : List Slot} {many : List Nat} (h : ClSt W w c0 s b bw bb ba bn bm w0 w1 w2 c slots many) (t : Nat) : ClSt W (w.setCell ⟨ba, t, none⟩ (.pointer none)) c0 s b bw bb ba bn bm w0 w1 w2 c (slots.set t none) many := by
  have hc : Chg (fun j => j = ba) w (w.setCell ⟨ba, t, none⟩ (.pointer none)) := (Chg.refl _ _).setCell _ _ (fun _ => rfl)
  refine ⟨h.sys.set hc (fun j hj => by subst hj; exact ⟨h.blk.ga, h.blk.d1⟩) (h.sys.mem.chg hc (fun e => h.blk.d2 e.symm) (fun e => h.blk.d3 e.symm) (fun e => h.blk.d4 e.symm)), h.blk, ?_, h.mny.chg hc (fun e => h.blk.e4 e.symm), h.got.chg hc (fun e => h.blk.e5 e.symm), by rw [List.length_set]; exact h.ls, h.lm, ?_, ?_, h.h1, h.h2⟩
  · rw [List.map_set]; exact h.ops.set t _
  · intro u bo bwd o hs
    rw [List.getElem?_set] at hs
    split at hs
    · split at hs <;> simp at hs
    · have hk := h.ok u bo bwd o hs
      exact hk.chg hc hk.a1 hk.b1 (Nat.le_refl _) (Nat.le_refl _) (Nat.le_refl _)
  · intro u v bo bwd o bo' bwd' o' huv hu hv
    rw [List.getElem?_set] at hu hv
    split at hu
    · split at hu <;> simp at hu
    · split at hv
      · split at hv <;> simp at hv
      · exact h.ne u v _ _ _ _ _ _ huv hu hv
/-- a number is kept for an empty slot. -/
theorem ClSt.number {W w : World} {c0 s b bw bb ba bn bm w0 w1 w2 c : Nat} {slots : List Slot} {many : List Nat} (h : ClSt W w c0 s b bw bb ba bn bm w0 w1 w2 c slots many) (t m : Nat) (ht : slots[t]? = some none) : ClSt W (w.setCell ⟨bn, t, none⟩ (.int .i64 (m : Nat))) c0 s b bw bb ba bn bm w0 w1 w2 c slots (many.set t m) := by
  have hc : Chg (fun j => j = bn) w (w.setCell ⟨bn, t, none⟩ (.int .i64 (m : Nat))) := (Chg.refl _ _).setCell _ _ (fun _ => rfl)
  refine ⟨h.sys.set hc (fun j hj => by subst hj; exact ⟨h.blk.gn, h.blk.d5⟩) (h.sys.mem.chg hc (fun e => h.blk.d6 e.symm) (fun e => h.blk.d7 e.symm) (fun e => h.blk.d8 e.symm)), h.blk, h.ops.chg hc h.blk.e4, ?_, h.got.chg hc (fun e => h.blk.e6 e.symm), h.ls, by rw [List.length_set]; exact h.lm, ?_, h.ne, h.h1, h.h2⟩
  · unfold intVals
    rw [List.map_set, List.map_set]
    exact h.mny.set t _
  · intro u bo bwd o hs
    have hk := h.ok u bo bwd o hs
    have hut : t ≠ u := by intro e; subst e; rw [ht] at hs; simp at hs
    refine ⟨hk.op.chg hc hk.a2 hk.b2, hk.cl, hk.ap, hk.ge, hk.a1, hk.a2, hk.a3, hk.b1, hk.b2, hk.b3, ?_⟩
    rw [← hk.m]
    simp [List.getD, hut]
/-- an empty slot is filled by an operation that was just made. -/
theorem ClSt.fill {W w w' : World} {c0 s b bw bb ba bn bm w0 w1 w2 c : Nat} {slots : List Slot} {many : List Nat} (h : ClSt W w c0 s b bw bb ba bn bm w0 w1 w2 c slots many) {t m bo bwd : Nat} (hb : Below w.heap.size w w') (ho : OpAt w' bo bwd ⟨0, s, m, [1, 2], 0, 0, 0, 0, 0⟩)
    (g1 : w.heap.size ≤ bo) (g2 : w.heap.size ≤ bwd) (g3 : bo ≠ bwd) (hms : 1 ≤ m ∧ m ≤ s) (hmt : many.getD t 0 = m) :
    ClSt W (w'.setCell ⟨ba, t, none⟩ (.pointer (some ⟨bo, 0, none⟩))) c0 s b bw bb ba bn bm w0 w1 w2 c (slots.set t (some (bo, bwd, ⟨0, s, m, [1, 2], 0, 0, 0, 0, 0⟩))) many := by
  have hk := h.keep hb
  have hc : Chg (fun j => j = ba) w' (w'.setCell ⟨ba, t, none⟩ (.pointer (some ⟨bo, 0, none⟩))) := (Chg.refl _ _).setCell _ _ (fun _ => rfl)
  obtain ⟨hap, hge⟩ := apart_new h.sys g1 g2 g3
  have la := h.ops.lt
  have ln := h.mny.lt
  have lg := h.got.lt
  refine ⟨hk.sys.set hc (fun j hj => by subst hj; exact ⟨h.blk.ga, h.blk.d1⟩) (hk.sys.mem.chg hc (fun e => h.blk.d2 e.symm) (fun e => h.blk.d3 e.symm) (fun e => h.blk.d4 e.symm)), h.blk, ?_, hk.mny.chg hc (fun e => h.blk.e4 e.symm), hk.got.chg hc (fun e => h.blk.e5 e.symm), by rw [List.length_set]; exact h.ls, h.lm, ?_, ?_, h.h1, h.h2⟩
  · rw [List.map_set]; exact hk.ops.set t _
  · intro u bo' bwd' o' hs
    rw [List.getElem?_set] at hs
    split at hs
    · rename_i htu
      subst htu
      split at hs
      · simp only [Option.some.injEq, Prod.mk.injEq] at hs
        obtain ⟨rfl, rfl, rfl⟩ := hs
        exact ⟨ho.chg hc (by show ¬ bo = ba; omega) (by show ¬ bwd = ba; omega), ⟨rfl, rfl, hms.1, hms.2, rfl, rfl, Nat.zero_le _, Nat.zero_le _, .inl rfl⟩, hap, hge, by omega, by omega, by omega, by omega, by omega, by omega, hmt⟩
      · simp at hs
    · have hku := hk.ok u bo' bwd' o' hs
      exact hku.chg hc hku.a1 hku.b1 (Nat.le_refl _) (Nat.le_refl _) (Nat.le_refl _)
  · intro u v bo1 bwd1 o1 bo2 bwd2 o2 huv hu hv
    rw [List.getElem?_set] at hu hv
    split at hu
    · split at hv
      · omega
      · split at hu
        · simp only [Option.some.injEq, Prod.mk.injEq] at hu
          obtain ⟨rfl, rfl, rfl⟩ := hu
          have hl := (h.ok v bo2 bwd2 o2 hv).op.lt
          constructor <;> omega
        · simp at hu
    · split at hv
      · split at hv
        · simp only [Option.some.injEq, Prod.mk.injEq] at hv
          obtain ⟨rfl, rfl, rfl⟩ := hv
          have hl := (h.ok u bo1 bwd1 o1 hu).op.lt
          constructor <;> omega
        · simp at hv
      · exact h.ne u v _ _ _ _ _ _ huv hu hv
/-- an operation has done a step, and goes on. -/
theorem ClSt.stepped {W w w' : World} {c0 s b bw bb ba bn bm w0 w1 w2 c : Nat} {slots : List Slot} {many : List Nat} (h : ClSt W w c0 s b bw bb ba bn bm w0 w1 w2 c slots many) {t bo bwd : Nat} {o o' : NOp} (ht : slots[t]? = some (some (bo, bwd, o)))
    (hc : Chg (fun j => j = b ∨ j = bw ∨ j = bo) w w') (hsys : Sys W w' c0 (0 : Nat) (s : Nat) b bw bb [w0, w1, w2]) (ho : OpAt w' bo bwd o') (hcl : ClOp s w0 w1 w2 o') (hm : o'.m = o.m) :
    ClSt W w' c0 s b bw bb ba bn bm w0 w1 w2 c (slots.set t (some (bo, bwd, o'))) many := by
  have hk := h.ok t bo bwd o ht
  have htl : t < slots.length := (List.getElem?_eq_some_iff.1 ht).1
  refine ⟨hsys, h.blk, ?_, h.mny.chg hc (fun e => e.elim h.blk.d6 (fun e => e.elim h.blk.d7 (fun e => hk.a2 e.symm))), h.got.chg hc (fun e => e.elim h.blk.e1 (fun e => e.elim h.blk.e2 (fun e => hk.a3 e.symm))), by rw [List.length_set]; exact h.ls, h.lm, ?_, ?_, h.h1, h.h2⟩
  · have e : (slots.set t (some (bo, bwd, o'))).map slotVal = slots.map slotVal := by
      rw [List.map_set]
      apply List.ext_getElem?
      intro u
      rw [List.getElem?_set]
      split
      · rename_i htu; subst htu; rw [List.getElem?_map, ht]; simp [slotVal, htl]
      · rfl
    rw [e]
    exact h.ops.chg hc (fun e => e.elim h.blk.d2 (fun e => e.elim h.blk.d3 (fun e => hk.a1 e.symm)))
  · intro u bo1 bwd1 o1 hs
    rw [List.getElem?_set] at hs
    split at hs
    · rename_i htu
      subst htu
      simp only [Option.some.injEq, Prod.mk.injEq] at hs
      obtain ⟨rfl, rfl, rfl⟩ := hs
      exact ⟨ho, hcl, hk.ap, hk.ge, hk.a1, hk.a2, hk.a3, hk.b1, hk.b2, hk.b3, by rw [hm]; exact hk.m⟩
    · rename_i htu
      have hku := h.ok u bo1 bwd1 o1 hs
      have hn := h.ne t u _ _ _ _ _ _ htu ht hs
      exact hku.chg hc (fun e => e.elim hku.ap.n1 (fun e => e.elim hku.ap.n2 (fun e => hn.1 e.symm))) (fun e => e.elim hku.ap.m1 (fun e => e.elim hku.ap.m2 (fun e => hn.2 e.symm))) (Nat.le_refl _) (Nat.le_refl _) (Nat.le_refl _)
  · intro u v bo1 bwd1 o1 bo2 bwd2 o2 huv hu hv
    have lift : ∀ (x bo3 bwd3 : Nat) (o3 : NOp), (slots.set t (some (bo, bwd, o')))[x]? = some (some (bo3, bwd3, o3)) → ∃ o4, slots[x]? = some (some (bo3, bwd3, o4)) := by
      intro x bo3 bwd3 o3 hx
      rw [List.getElem?_set] at hx
      split at hx
      · rename_i htx
        subst htx
        simp only [Option.some.injEq, Prod.mk.injEq] at hx
        obtain ⟨rfl, rfl, rfl⟩ := hx
        exact ⟨o, ht⟩
      · exact ⟨o3, hx⟩
    obtain ⟨p1, hp1⟩ := lift u bo1 bwd1 o1 hu
    obtain ⟨p2, hp2⟩ := lift v bo2 bwd2 o2 hv
    exact h.ne u v _ _ _ _ _ _ huv hp1 hp2
/-- an operation is done: its slot is emptied. -/
theorem ClSt.done {W w w' : World} {c0 s b bw bb ba bn bm w0 w1 w2 c : Nat} {slots : List Slot} {many : List Nat} (h : ClSt W w c0 s b bw bb ba bn bm w0 w1 w2 c slots many) {t bo bwd : Nat} {o : NOp} (ht : slots[t]? = some (some (bo, bwd, o))) {v0 : Nat}
    (hc : Chg (fun j => j = b ∨ j = bw ∨ j = bo) w w') (hsys : Sys W w' c0 (0 : Nat) (s : Nat) b bw bb [v0, w1, w2]) (h0 : w0 ≤ v0) :
    ClSt W (w'.setCell ⟨ba, t, none⟩ (.pointer none)) c0 s b bw bb ba bn bm v0 w1 w2 c (slots.set t none) many := by
  have hk := h.ok t bo bwd o ht
  have hd : Chg (fun j => j = ba) w' (w'.setCell ⟨ba, t, none⟩ (.pointer none)) := (Chg.refl _ _).setCell _ _ (fun _ => rfl)
  have h1 := h.h1; have h2 := h.h2
  refine ⟨hsys.set hd (fun j hj => by subst hj; exact ⟨h.blk.ga, h.blk.d1⟩) (hsys.mem.chg hd (fun e => h.blk.d2 e.symm) (fun e => h.blk.d3 e.symm) (fun e => h.blk.d4 e.symm)), h.blk, ?_,
    (h.mny.chg hc (fun e => e.elim h.blk.d6 (fun e => e.elim h.blk.d7 (fun e => hk.a2 e.symm)))).chg hd (fun e => h.blk.e4 e.symm), (h.got.chg hc (fun e => e.elim h.blk.e1 (fun e => e.elim h.blk.e2 (fun e => hk.a3 e.symm)))).chg hd (fun e => h.blk.e5 e.symm), by rw [List.length_set]; exact h.ls, h.lm, ?_, ?_, by omega, by omega⟩
  · rw [List.map_set]
    exact (h.ops.chg hc (fun e => e.elim h.blk.d2 (fun e => e.elim h.blk.d3 (fun e => hk.a1 e.symm)))).set t _
  · intro u bo1 bwd1 o1 hs
    rw [List.getElem?_set] at hs
    split at hs
    · split at hs <;> simp at hs
    · rename_i htu
      have hku := h.ok u bo1 bwd1 o1 hs
      have hn := h.ne t u _ _ _ _ _ _ htu ht hs
      exact (hku.chg hc (fun e => e.elim hku.ap.n1 (fun e => e.elim hku.ap.n2 (fun e => hn.1 e.symm))) (fun e => e.elim hku.ap.m1 (fun e => e.elim hku.ap.m2 (fun e => hn.2 e.symm))) h0 (Nat.le_refl _) (Nat.le_refl _)).chg hd hku.a1 hku.b1 (Nat.le_refl _) (Nat.le_refl _) (Nat.le_refl _)
  · intro u v bo1 bwd1 o1 bo2 bwd2 o2 huv hu hv
    rw [List.getElem?_set] at hu hv
    split at hu
    · split at hu <;> simp at hu
    · split at hv
      · split at hv <;> simp at hv
      · exact h.ne u v _ _ _ _ _ _ huv hu hv
end Go.Proofs.Ytobdpieijgiaoaa
