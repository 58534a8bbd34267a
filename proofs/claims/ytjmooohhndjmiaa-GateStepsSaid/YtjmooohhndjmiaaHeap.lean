/- known blocks, told apart by marks: a map from marks to blocks, and what each event leaves of it. Generic: no program in sight. -/
import Derived.Test.YtjmooohhndjmiaaMemC
namespace Go.Proofs.Ytjmooohhndjmiaa
open Go.RowKit Go.Deep

abbrev HMap := Nat → Option (Nat × TypeId × List Value)
def HMap.upd (m : HMap) (t : Nat) (x : Nat × TypeId × List Value) : HMap := fun j => if j = t then some x else m j
theorem HMap.upd_eq (m : HMap) (t : Nat) (x : Nat × TypeId × List Value) : m.upd t x t = some x := by simp [HMap.upd]
theorem HMap.upd_ne (m : HMap) {t j : Nat} (x : Nat × TypeId × List Value) (h : j ≠ t) : m.upd t x j = m j := by simp [HMap.upd, h]
/-- blocks that are known whole: each has its mark, and marks tell blocks apart; all were made since W. -/
structure Hp (W w : World) (χ : Nat → Nat) (m : HMap) : Prop where
  below : Below W.heap.size W w
  bnd : ∀ j, χ j ≠ 0 → W.heap.size ≤ j ∧ j < w.heap.size
  has : ∀ t g ty cs, m t = some (g, ty, cs) → t ≠ 0 ∧ χ g = t ∧ Blk w g ty cs
variable {W w w' : World} {χ : Nat → Nat} {m : HMap}
theorem Hp.blk (h : Hp W w χ m) {t g : Nat} {ty : TypeId} {cs : List Value} (e : m t = some (g, ty, cs)) : Blk w g ty cs := (h.has t g ty cs e).2.2
theorem Hp.ge (h : Hp W w χ m) {t g : Nat} {ty : TypeId} {cs : List Value} (e : m t = some (g, ty, cs)) : W.heap.size ≤ g := by
  obtain ⟨h0, h1, _⟩ := h.has t g ty cs e
  exact (h.bnd g (by rw [h1]; exact h0)).1
theorem Hp.lt (h : Hp W w χ m) {t g : Nat} {ty : TypeId} {cs : List Value} (e : m t = some (g, ty, cs)) : g < w.heap.size := (h.blk e).lt
theorem Hp.ne (h : Hp W w χ m) {t u g g' : Nat} {ty ty' : TypeId} {cs cs' : List Value} (e : m t = some (g, ty, cs)) (e' : m u = some (g', ty', cs')) (ht : t ≠ u) : g ≠ g' := by
  intro hg
  subst hg
  exact ht ((h.has t g ty cs e).2.1.symm.trans (h.has u g ty' cs' e').2.1)
theorem Hp.keep (h : Hp W w χ m) (hb : Below w.heap.size w w') : Hp W w' χ m :=
  ⟨bseq h.below hb, fun j hj => ⟨(h.bnd j hj).1, by have := (h.bnd j hj).2; have := hb.size; omega⟩, fun t g ty cs e => ⟨(h.has t g ty cs e).1, (h.has t g ty cs e).2.1, (h.blk e).chg (chg_of_below (fun _ => False) hb) (fun h => h)⟩⟩
theorem Hp.alloc (h : Hp W w χ m) (o : Obj) : Hp W (w.alloc o) χ m := h.keep (bnew (Below.refl _ _) o)
theorem Hp.drew (h : Hp W w χ m) : Hp W w.drew χ m := h.keep (Below.refl _ _).drew
theorem Hp.drewN (h : Hp W w χ m) (n : Nat) : Hp W (w.drewN n) χ m := h.keep (below_of_chg ((Chg.refl _ w).drewN n))
/-- some marked blocks have changed: what they hold now is told. -/
theorem Hp.chg (h : Hp W w χ m) {T : Nat → Prop} (hc : Chg (fun j => T (χ j)) w w') (h0 : ¬ T 0) (m' : HMap)
    (hin : ∀ t g ty cs, m' t = some (g, ty, cs) → (¬ T t ∧ m t = some (g, ty, cs)) ∨ (t ≠ 0 ∧ χ g = t ∧ Blk w' g ty cs)) : Hp W w' χ m' := by
  refine ⟨Chg.below h.below hc h.below.size (fun k hk => (h.bnd k (fun e => h0 (by rw [e] at hk; exact hk))).1), fun j hj => ⟨(h.bnd j hj).1, by have := (h.bnd j hj).2; have := hc.size; omega⟩, fun t g ty cs e => ?_⟩
  rcases hin t g ty cs e with ⟨hT, e'⟩ | hk
  · obtain ⟨k0, k1, k2⟩ := h.has t g ty cs e'
    exact ⟨k0, k1, k2.chg hc (by rw [k1]; exact hT)⟩
  · exact hk
/-- one block has changed. -/
theorem Hp.put (h : Hp W w χ m) {t g : Nat} {ty : TypeId} {cs : List Value} (e : m t = some (g, ty, cs)) (hc : Chg (fun j => j = g) w w') {ty' : TypeId} {cs' : List Value} (hb : Blk w' g ty' cs') : Hp W w' χ (m.upd t (g, ty', cs')) := by
  obtain ⟨k0, k1, _⟩ := h.has t g ty cs e
  refine h.chg (T := fun u => u = t) (hc.mono (fun j _ hj => by subst hj; exact k1)) (fun e => k0 e.symm) _ (fun u g' ty2 cs2 e2 => ?_)
  by_cases hu : u = t
  · subst hu
    rw [HMap.upd_eq] at e2
    injection e2 with e2
    simp only [Prod.mk.injEq] at e2
    obtain ⟨rfl, rfl, rfl⟩ := e2
    exact .inr ⟨k0, k1, hb⟩
  · rw [HMap.upd_ne _ _ hu] at e2
    exact .inl ⟨hu, e2⟩
theorem Hp.put2 (h : Hp W w χ m) {t g u f : Nat} {ty uy : TypeId} {cs us : List Value} (e : m t = some (g, ty, cs)) (e2 : m u = some (f, uy, us)) (htu : t ≠ u) (hc : Chg (fun j => j = g ∨ j = f) w w') {ty' uy' : TypeId} {cs' us' : List Value} (hb : Blk w' g ty' cs') (hb2 : Blk w' f uy' us') :
    Hp W w' χ ((m.upd t (g, ty', cs')).upd u (f, uy', us')) := by
  obtain ⟨k0, k1, _⟩ := h.has t g ty cs e
  obtain ⟨l0, l1, _⟩ := h.has u f uy us e2
  refine h.chg (T := fun x => x = t ∨ x = u) (hc.mono (fun j _ hj => by rcases hj with rfl | rfl; exact .inl k1; exact .inr l1)) (fun e => e.elim (fun e => k0 e.symm) (fun e => l0 e.symm)) _ (fun x g' ty2 cs2 e2 => ?_)
  by_cases hu : x = u
  · subst hu
    rw [HMap.upd_eq] at e2
    injection e2 with e2
    simp only [Prod.mk.injEq] at e2
    obtain ⟨rfl, rfl, rfl⟩ := e2
    exact .inr ⟨l0, l1, hb2⟩
  · rw [HMap.upd_ne _ _ hu] at e2
    by_cases ht : x = t
    · subst ht
      rw [HMap.upd_eq] at e2
      injection e2 with e2
      simp only [Prod.mk.injEq] at e2
      obtain ⟨rfl, rfl, rfl⟩ := e2
      exact .inr ⟨k0, k1, hb⟩
    · rw [HMap.upd_ne _ _ ht] at e2
      exact .inl ⟨fun h => h.elim ht hu, e2⟩
theorem Hp.put3 (h : Hp W w χ m) {t g u f v d : Nat} {ty uy vy : TypeId} {cs us vs : List Value} (e : m t = some (g, ty, cs)) (e2 : m u = some (f, uy, us)) (e3 : m v = some (d, vy, vs)) (htu : t ≠ u) (htv : t ≠ v) (huv : u ≠ v) (hc : Chg (fun j => j = g ∨ j = f ∨ j = d) w w')
    {ty' uy' vy' : TypeId} {cs' us' vs' : List Value} (hb : Blk w' g ty' cs') (hb2 : Blk w' f uy' us') (hb3 : Blk w' d vy' vs') :
    Hp W w' χ (((m.upd t (g, ty', cs')).upd u (f, uy', us')).upd v (d, vy', vs')) := by
  obtain ⟨k0, k1, _⟩ := h.has t g ty cs e
  obtain ⟨l0, l1, _⟩ := h.has u f uy us e2
  obtain ⟨j0, j1, _⟩ := h.has v d vy vs e3
  refine h.chg (T := fun x => x = t ∨ x = u ∨ x = v) (hc.mono (fun j _ hj => by rcases hj with rfl | rfl | rfl; exact .inl k1; exact .inr (.inl l1); exact .inr (.inr j1))) (fun e => e.elim (fun e => k0 e.symm) (fun e => e.elim (fun e => l0 e.symm) (fun e => j0 e.symm))) _ (fun x g' ty2 cs2 e2 => ?_)
  by_cases hv : x = v
  · subst hv
    rw [HMap.upd_eq] at e2
    injection e2 with e2
    simp only [Prod.mk.injEq] at e2
    obtain ⟨rfl, rfl, rfl⟩ := e2
    exact .inr ⟨j0, j1, hb3⟩
  · rw [HMap.upd_ne _ _ hv] at e2
    by_cases hu : x = u
    · subst hu
      rw [HMap.upd_eq] at e2
      injection e2 with e2
      simp only [Prod.mk.injEq] at e2
      obtain ⟨rfl, rfl, rfl⟩ := e2
      exact .inr ⟨l0, l1, hb2⟩
    · rw [HMap.upd_ne _ _ hu] at e2
      by_cases ht : x = t
      · subst ht
        rw [HMap.upd_eq] at e2
        injection e2 with e2
        simp only [Prod.mk.injEq] at e2
        obtain ⟨rfl, rfl, rfl⟩ := e2
        exact .inr ⟨k0, k1, hb⟩
      · rw [HMap.upd_ne _ _ ht] at e2
        exact .inl ⟨fun h => h.elim ht (fun h => h.elim hu hv), e2⟩
/-- a cell of one is set. -/
theorem Hp.set (h : Hp W w χ m) {t g : Nat} {ty : TypeId} {cs : List Value} (e : m t = some (g, ty, cs)) (i : Nat) (v : Value) : Hp W (w.setCell ⟨g, i, none⟩ v) χ (m.upd t (g, ty, cs.set i v)) :=
  h.put e ((Chg.refl _ _).setCell _ _ (fun _ => rfl)) ((h.blk e).set i v)
/-- a block that was not marked is marked: it has taken the place of the one that had the mark. -/
theorem Hp.mark (h : Hp W w χ m) {t g : Nat} (ht : t ≠ 0) (hg : χ g = 0) (hge : W.heap.size ≤ g) {ty : TypeId} {cs : List Value} (hb : Blk w g ty cs) : ∃ χ', Hp W w χ' (m.upd t (g, ty, cs)) ∧ ∀ j, j ≠ g → χ' j = χ j := by
  refine ⟨fun j => if j = g then t else χ j, ⟨h.below, fun j hj => ?_, fun u g' ty2 cs2 e2 => ?_⟩, fun j hj => if_neg hj⟩
  · by_cases hjg : j = g
    · subst hjg; exact ⟨hge, hb.lt⟩
    · simp only [if_neg hjg] at hj; exact h.bnd j hj
  · by_cases hu : u = t
    · subst hu
      rw [HMap.upd_eq] at e2
      injection e2 with e2
      simp only [Prod.mk.injEq] at e2
      obtain ⟨rfl, rfl, rfl⟩ := e2
      exact ⟨ht, by simp, hb⟩
    · rw [HMap.upd_ne _ _ hu] at e2
      obtain ⟨k0, k1, k2⟩ := h.has _ _ _ _ e2
      refine ⟨k0, ?_, k2⟩
      have : g' ≠ g := fun e => by subst e; rw [hg] at k1; exact k0 k1.symm
      simp only [if_neg this]
      exact k1
theorem Hp.fresh (h : Hp W w χ m) {g : Nat} (hg : w.heap.size ≤ g) : χ g = 0 := by
  rcases Nat.eq_zero_or_pos (χ g) with h0 | h0
  · exact h0
  · have := (h.bnd g (by omega)).2; omega
/-- a new block. -/
theorem Hp.add (h : Hp W w χ m) (hb : Below w.heap.size w w') {t g : Nat} (ht : t ≠ 0) (hg : w.heap.size ≤ g) {ty : TypeId} {cs : List Value} (hk : Blk w' g ty cs) : ∃ χ', Hp W w' χ' (m.upd t (g, ty, cs)) ∧ ∀ j, j ≠ g → χ' j = χ j :=
  (h.keep hb).mark ht (h.fresh hg) (by have := h.below.size; omega) hk
/-- a block that is not marked has changed. -/
theorem Hp.free (h : Hp W w χ m) {p : Nat} (hp : χ p = 0) (hge : W.heap.size ≤ p) (hc : Chg (fun j => j = p) w w') : Hp W w' χ m :=
  ⟨Chg.below h.below hc h.below.size (fun k hk => by subst hk; exact hge), fun j hj => ⟨(h.bnd j hj).1, by have := (h.bnd j hj).2; have := hc.size; omega⟩, fun t g ty cs e => by
    obtain ⟨k0, k1, k2⟩ := h.has t g ty cs e
    exact ⟨k0, k1, k2.chg hc (fun e => by subst e; rw [hp] at k1; exact k0 k1.symm)⟩⟩
theorem hp_start (W : World) : Hp W W (fun _ => 0) (fun _ => none) := ⟨Below.refl _ _, fun j hj => absurd rfl hj, fun t g ty cs e => by cases e⟩

/-- a slice of the call's own: nil, or a row that is known. -/
def RowIn (m : HMap) (t : Nat) (ty : TypeId) (size : Nat) (v : Value) (n : Nat) (xs : List Value) : Prop :=
  (v = .slice none 0 0 ∧ n = 0 ∧ xs = []) ∨ ∃ g cap cur, v = .slice (some ⟨g, 0, none⟩) n cap ∧ m t = some (g, ty, cur) ∧ n ≤ cap ∧ cap ≤ maxLen ∧ cur.length = cap * size ∧ cur.take (n * size) = xs ∧ xs.length = n * size
theorem RowIn.upd {t u : Nat} {ty : TypeId} {size : Nat} {v : Value} {n : Nat} {xs : List Value} (h : RowIn m t ty size v n xs) (x : Nat × TypeId × List Value) (hu : t ≠ u) : RowIn (m.upd u x) t ty size v n xs := by
  rcases h with h | ⟨g, cap, cur, h1, h2, h3⟩
  · exact .inl h
  · exact .inr ⟨g, cap, cur, h1, by rw [HMap.upd_ne _ _ hu]; exact h2, h3⟩
theorem RowIn.owns (h : Hp W w χ m) {t : Nat} {ty : TypeId} {size : Nat} {v : Value} {n : Nat} {xs : List Value} (hr : RowIn m t ty size v n xs) : w.ownsRow W.heap.size ty size v n xs := by
  rcases hr with ⟨rfl, rfl, rfl⟩ | ⟨g, cap, cur, rfl, h2, h3, h4, h5, h6, h7⟩
  · exact World.ownsRow_nil _ _ _ _
  · exact ⟨h7, .inr ⟨g, cap, cur.toArray, rfl, h.ge h2, h.blk h2, h3, h4, by simp [h5], by simpa using h6⟩⟩
/-- behind an append: the row is the longer one. -/
theorem Hp.app (h : Hp W w χ m) {t : Nat} (ht : t ≠ 0) {ty : TypeId} {size : Nat} {v v' : Value} {n n' : Nat} {xs ys : List Value} (hr : RowIn m t ty size v n xs) (hn : 0 < n') (hown : w'.ownsRow W.heap.size ty size v' n' ys) (hg : w.grownBy w' v.ownBlock)
    (hs : v'.ownBlock = v.ownBlock ∨ v'.ownBlock = some w.heap.size) : ∃ χ' g cur, Hp W w' χ' (m.upd t (g, ty, cur)) ∧ (∀ j, j < w.heap.size → χ' j = χ j) ∧ RowIn (m.upd t (g, ty, cur)) t ty size v' n' ys ∧ ∃ cap, v' = .slice (some ⟨g, 0, none⟩) n' cap := by
  obtain ⟨hl, hcase⟩ := hown
  rcases hcase with ⟨_, h0⟩ | ⟨g', cap', cur', rfl, hb', hh', hc', hm', hs', ht'⟩
  · omega
  have hrow : RowIn (m.upd t (g', ty, cur'.toList)) t ty size (.slice (some ⟨g', 0, none⟩) n' cap') n' ys :=
    .inr ⟨g', cap', cur'.toList, rfl, HMap.upd_eq _ _ _, hc', hm', by simpa using hs', ht', hl⟩
  have hblk : Blk w' g' ty cur'.toList := by unfold Blk; simpa using hh'
  rcases hr with ⟨rfl, rfl, rfl⟩ | ⟨g, cap, cur, rfl, h2, h3, h4, h5, h6, h7⟩
  · -- there was none
    have hbel : Below w.heap.size w w' := (Below.refl _ _).grown hg (Nat.le_refl _) (fun k hk => by simp [Value.ownBlock] at hk)
    have hge : w.heap.size ≤ g' := by
      rcases hs with e | e
      · simp [Value.ownBlock] at e
      · simp [Value.ownBlock] at e; omega
    obtain ⟨χ', k1, k2⟩ := h.add hbel ht hge hblk
    exact ⟨χ', g', cur'.toList, k1, fun j hj => k2 j (by omega), hrow, cap', rfl⟩
  · have hgk : (Value.slice (some (⟨g, 0, none⟩ : Addr)) n cap).ownBlock = some g := rfl
    rw [hgk] at hg hs
    have hchg : Chg (fun j => j = g) w w' := ⟨hg.os, hg.tape, hg.output, hg.size, fun k hk hn => hg.block k hk (fun e => hn (by injection e))⟩
    rcases hs with e | e
    · have : g' = g := by simpa [Value.ownBlock] using e
      subst this
      exact ⟨χ, g', cur'.toList, h.put h2 hchg hblk, fun _ _ => rfl, hrow, cap', rfl⟩
    · have hgf : g' = w.heap.size := by simpa [Value.ownBlock] using e
      obtain ⟨k0, k1, _⟩ := h.has _ _ _ _ h2
      -- the row went to a new place; what had the mark is marked no more
      have hp : Hp W w' χ (fun j => if j = t then none else m j) := by
        refine h.chg (T := fun u => u = t) (hchg.mono (fun j _ hj => by subst hj; exact k1)) (fun e => k0 e.symm) _ (fun u g2 ty2 cs2 e2 => ?_)
        by_cases hu : u = t
        · simp [hu] at e2
        · simp only [if_neg hu] at e2; exact .inl ⟨hu, e2⟩
      obtain ⟨χ', q1, q2⟩ := hp.mark ht (h.fresh (by omega)) (by have := h.below.size; omega) hblk
      refine ⟨χ', g', cur'.toList, ?_, fun j hj => q2 j (by omega), hrow, cap', rfl⟩
      have : HMap.upd (fun j => if j = t then none else m j) t (g', ty, cur'.toList) = m.upd t (g', ty, cur'.toList) := by
        funext j
        unfold HMap.upd
        by_cases hj : j = t
        · simp [hj]
        · simp [hj]
      rw [← this]; exact q1

/-- a memory among the marked blocks: at the marks p, p + 1, p + 2. -/
def MemIn (m : HMap) (p b bw bb : Nat) (ws : List Nat) : Prop :=
  (∃ c0 c1 c2 c3 c4 c5 : Int, m p = some (b, 73, [.slice (some ⟨bw, 0, none⟩) ws.length ws.length, .slice (some ⟨bb, 0, none⟩) ws.length ws.length, .int .i64 c0, .int .i64 c1, .int .i64 c2, .int .i64 c3, .int .i64 c4, .int .i64 c5, .int .i64 (-1), .bool false])) ∧
    m (p + 1) = some (bw, 40, wordVals ws) ∧ m (p + 2) = some (bb, 4, List.replicate ws.length (.bool false)) ∧ 0 < ws.length ∧ ws.length ≤ 65536 ∧ ∀ x ∈ ws, x < 18446744073709551616
theorem MemIn.at (h : Hp W w χ m) {p b bw bb : Nat} {ws : List Nat} (hm : MemIn m p b bw bb ws) : MemAt w b bw bb ws := by
  obtain ⟨⟨c0, c1, c2, c3, c4, c5, h0⟩, h1, h2, h3, h4, h5⟩ := hm
  exact ⟨⟨c0, c1, c2, c3, c4, c5, h.blk h0⟩, h.blk h1, h.blk h2, h.ne h0 h1 (by omega), h.ne h0 h2 (by omega), h.ne h1 h2 (by omega), h3, h4, h5⟩
theorem MemIn.upd {p b bw bb : Nat} {ws : List Nat} (hm : MemIn m p b bw bb ws) {u : Nat} (x : Nat × TypeId × List Value) (h0 : p ≠ u) (h1 : p + 1 ≠ u) (h2 : p + 2 ≠ u) : MemIn (m.upd u x) p b bw bb ws := by
  obtain ⟨⟨c0, c1, c2, c3, c4, c5, k0⟩, k1, k2, k3⟩ := hm
  exact ⟨⟨c0, c1, c2, c3, c4, c5, by rw [HMap.upd_ne _ _ h0]; exact k0⟩, by rw [HMap.upd_ne _ _ h1]; exact k1, by rw [HMap.upd_ne _ _ h2]; exact k2, k3⟩
/-- the memory has changed. -/
theorem Hp.mem (h : Hp W w χ m) {p b bw bb : Nat} {ws ws' : List Nat} (hm : MemIn m p b bw bb ws) (hc : Chg (fun j => j = b ∨ j = bw) w w') (hm' : MemAt w' b bw bb ws') (hl : ws'.length = ws.length) :
    ∃ x y, Hp W w' χ ((m.upd p x).upd (p + 1) y) ∧ MemIn ((m.upd p x).upd (p + 1) y) p b bw bb ws' := by
  obtain ⟨⟨c0, c1, c2, c3, c4, c5, h0⟩, h1, h2, h3, h4, h5⟩ := hm
  obtain ⟨d0, d1, d2, d3, d4, d5, k0⟩ := hm'.top
  refine ⟨_, _, h.put2 h0 h1 (by omega) hc k0 hm'.words, ⟨d0, d1, d2, d3, d4, d5, ?_⟩, HMap.upd_eq _ _ _, ?_, hm'.pos, hm'.most, hm'.fit⟩
  · rw [HMap.upd_ne _ _ (by omega), HMap.upd_eq]
  · rw [HMap.upd_ne _ _ (by omega), HMap.upd_ne _ _ (by omega), hl]; exact h2
/-- the memory and one more block have changed. -/
theorem Hp.mem1 (h : Hp W w χ m) {p b bw bb : Nat} {ws ws' : List Nat} (hm : MemIn m p b bw bb ws) {u f : Nat} {uy : TypeId} {us : List Value} (e : m u = some (f, uy, us)) (hu : u ≠ p ∧ u ≠ p + 1 ∧ u ≠ p + 2) (hc : Chg (fun j => j = b ∨ j = bw ∨ j = f) w w') (hm' : MemAt w' b bw bb ws') (hl : ws'.length = ws.length) {uy' : TypeId} {us' : List Value} (hb : Blk w' f uy' us') :
    ∃ x y, Hp W w' χ (((m.upd p x).upd (p + 1) y).upd u (f, uy', us')) ∧ MemIn (((m.upd p x).upd (p + 1) y).upd u (f, uy', us')) p b bw bb ws' := by
  obtain ⟨⟨c0, c1, c2, c3, c4, c5, h0⟩, h1, h2, h3, h4, h5⟩ := hm
  obtain ⟨d0, d1, d2, d3, d4, d5, k0⟩ := hm'.top
  refine ⟨_, _, h.put3 h0 h1 e (by omega) (by omega) (by omega) hc k0 hm'.words hb, ⟨d0, d1, d2, d3, d4, d5, ?_⟩, ?_, ?_, hm'.pos, hm'.most, hm'.fit⟩
  · rw [HMap.upd_ne _ _ (by omega), HMap.upd_ne _ _ (by omega), HMap.upd_eq]
  · rw [HMap.upd_ne _ _ (by omega), HMap.upd_eq]
  · rw [HMap.upd_ne _ _ (by omega), HMap.upd_ne _ _ (by omega), HMap.upd_ne _ _ (by omega), hl]; exact h2
end Go.Proofs.Ytjmooohhndjmiaa
