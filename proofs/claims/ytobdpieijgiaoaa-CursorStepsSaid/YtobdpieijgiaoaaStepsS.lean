/- CursorSteps: what stands in the world at the loops' heads, and what each event leaves of it. -/
import Derived.Test.YtobdpieijgiaoaaHeap
import Derived.Test.YtobdpieijgiaoaaRefP
namespace Go.Proofs.Ytobdpieijgiaoaa
open Go.RowKit Go.Deep

/-- the reference's memory among the marked blocks. -/
def RefIn (m : HMap) (bx gw gb : Nat) (xs : List Nat) : Prop :=
  (∃ (c : Nat) (d0 d1 d2 d3 d4 d5 : Int), m 5 = some (bx, 56, [.slice (some ⟨gw, 0, none⟩) xs.length c, .slice (some ⟨gb, 0, none⟩) xs.length xs.length, .int .i64 d0, .int .i64 d1, .int .i64 d2, .int .i64 d3, .int .i64 d4, .int .i64 d5, .int .i64 (-1), .bool false])) ∧
    (∃ rest, m 6 = some (gw, 24, wordVals xs ++ rest)) ∧ m 9 = some (gb, 4, List.replicate xs.length (.bool false)) ∧ 0 < xs.length ∧ xs.length ≤ 65536 ∧ ∀ x ∈ xs, x < 18446744073709551616
variable {W w w' : World} {χ : Nat → Nat} {m : HMap}
theorem RefIn.at (h : Hp W w χ m) {bx gw gb : Nat} {xs : List Nat} (hr : RefIn m bx gw gb xs) : RefAt w gw gb xs := by
  obtain ⟨_, ⟨r, h1⟩, h2, h3, h4, h5⟩ := hr
  exact ⟨⟨r, h.blk h1⟩, h.blk h2, h.ne h1 h2 (by omega), h3, h4, h5⟩
theorem RefIn.upd {bx gw gb : Nat} {xs : List Nat} (hr : RefIn m bx gw gb xs) {u : Nat} (x : Nat × TypeId × List Value) (h5 : 5 ≠ u) (h6 : 6 ≠ u) (h9 : 9 ≠ u) : RefIn (m.upd u x) bx gw gb xs := by
  obtain ⟨⟨c, d0, d1, d2, d3, d4, d5, k0⟩, ⟨r, k1⟩, k2, k3⟩ := hr
  exact ⟨⟨c, d0, d1, d2, d3, d4, d5, by rw [HMap.upd_ne _ _ h5]; exact k0⟩, ⟨r, by rw [HMap.upd_ne _ _ h6]; exact k1⟩, by rw [HMap.upd_ne _ _ h9]; exact k2, k3⟩

/-- an operation, and the reference's. -/
structure Ent where
  bo : Nat
  bwd : Nat
  o : NOp
  r : NOp
  bq : Nat
  cq : Nat
def Ent.vals (e : Ent) : List Value := refVals e.r (some ⟨e.bq, 0, none⟩) e.r.words.length e.cq
theorem Ent.len (e : Ent) : e.vals.length = 9 := rfl
def EntIn (m : HMap) (s t : Nat) (e : Ent) : Prop :=
  m (20 + 3 * t) = some (e.bo, 68, opCells e.o.a e.o.s e.o.m e.bwd e.o.words.length e.o.pc e.o.k e.o.p e.o.g e.o.code) ∧ m (21 + 3 * t) = some (e.bwd, 3, intVals (e.o.words.map fun x : Nat => (x : Int))) ∧
    (∃ rest, m (22 + 3 * t) = some (e.bq, 3, intVals (e.r.words.map fun x : Nat => (x : Int)) ++ rest)) ∧ NOk e.o 4 ∧ (e.o.pc ≤ 2 → e.o.code = 0) ∧ e.o.a = 0 ∧ e.o.s = s
theorem EntIn.upd {s t : Nat} {e : Ent} (h : EntIn m s t e) {u : Nat} (x : Nat × TypeId × List Value) (h0 : 20 + 3 * t ≠ u) (h1 : 21 + 3 * t ≠ u) (h2 : 22 + 3 * t ≠ u) : EntIn (m.upd u x) s t e := by
  obtain ⟨k0, k1, ⟨r, k2⟩, k3⟩ := h
  exact ⟨by rw [HMap.upd_ne _ _ h0]; exact k0, by rw [HMap.upd_ne _ _ h1]; exact k1, ⟨r, by rw [HMap.upd_ne _ _ h2]; exact k2⟩, k3⟩
def ptrs (ps : List Nat) : List Value := ps.map fun p => .pointer (some ⟨p, 0, none⟩)
/-- the cursor's variable, and the numbers 1, 2, 3. -/
def BoxIn (m : HMap) (c0 s ba : Nat) : Prop := m 1 = some (c0, 23, [.int .i64 0, .int .i64 (s : Nat)]) ∧ m 10 = some (ba, 3, [.int .i64 1, .int .i64 2, .int .i64 3])
theorem BoxIn.upd {c0 s ba : Nat} (h : BoxIn m c0 s ba) {u : Nat} (x : Nat × TypeId × List Value) (h1 : 1 ≠ u) (h2 : 10 ≠ u) : BoxIn (m.upd u x) c0 s ba := ⟨by rw [HMap.upd_ne _ _ h1]; exact h.1, by rw [HMap.upd_ne _ _ h2]; exact h.2⟩
structure St (W w : World) (χ : Nat → Nat) (m : HMap) (c0 s ba b bw bb bx gw gb : Nat) (v7 v8 : Value) (ws xs ps : List Nat) (es : List Ent) : Prop where
  hp : Hp W w χ m
  box : BoxIn m c0 s ba
  mem : MemIn m 2 b bw bb ws
  ref : RefIn m bx gw gb xs
  r7 : RowIn m 7 29 1 v7 ps.length (ptrs ps)
  r8 : RowIn m 8 62 9 v8 es.length (es.flatMap Ent.vals)
  lw : ws.length = 4
  lx : xs.length = 4
  ent : ∀ t e, es[t]? = some e → EntIn m s t e
variable {c0 s ba b bw bb bx gw gb : Nat} {v7 v8 : Value} {ws xs ps : List Nat} {es : List Ent}
theorem St.keep (h : St W w χ m c0 s ba b bw bb bx gw gb v7 v8 ws xs ps es) (hb : Below w.heap.size w w') : St W w' χ m c0 s ba b bw bb bx gw gb v7 v8 ws xs ps es :=
  ⟨h.hp.keep hb, h.box, h.mem, h.ref, h.r7, h.r8, h.lw, h.lx, h.ent⟩
theorem St.alloc (h : St W w χ m c0 s ba b bw bb bx gw gb v7 v8 ws xs ps es) (o : Obj) : St W (w.alloc o) χ m c0 s ba b bw bb bx gw gb v7 v8 ws xs ps es := h.keep (bnew (Below.refl _ _) o)
theorem St.drew (h : St W w χ m c0 s ba b bw bb bx gw gb v7 v8 ws xs ps es) : St W w.drew χ m c0 s ba b bw bb bx gw gb v7 v8 ws xs ps es := h.keep (Below.refl _ _).drew
theorem St.free (h : St W w χ m c0 s ba b bw bb bx gw gb v7 v8 ws xs ps es) {p : Nat} (hp : χ p = 0) (hge : W.heap.size ≤ p) (hc : Chg (fun j => j = p) w w') : St W w' χ m c0 s ba b bw bb bx gw gb v7 v8 ws xs ps es :=
  ⟨h.hp.free hp hge hc, h.box, h.mem, h.ref, h.r7, h.r8, h.lw, h.lx, h.ent⟩
theorem St.sys (h : St W w χ m c0 s ba b bw bb bx gw gb v7 v8 ws xs ps es) : Sys W w c0 (0 : Nat) (s : Nat) b bw bb ws := by
  have hm := h.mem
  obtain ⟨⟨e0, e1, e2, e3, e4, e5, h0⟩, h1, h2, _⟩ := hm
  exact ⟨h.hp.below, h.hp.blk h.box.1, h.mem.at h.hp, h.hp.ge h.box.1, h.hp.ge h0, h.hp.ge h1, h.hp.ge h2, h.hp.ne h.box.1 h0 (by omega), h.hp.ne h.box.1 h1 (by omega), h.hp.ne h.box.1 h2 (by omega)⟩
theorem St.at (h : St W w χ m c0 s ba b bw bb bx gw gb v7 v8 ws xs ps es) {t : Nat} {e : Ent} (he : es[t]? = some e) : OpAt w e.bo e.bwd e.o ∧ Apart c0 b bw bb e.bo e.bwd ∧ W.heap.size ≤ e.bo := by
  obtain ⟨k0, k1, _⟩ := h.ent t e he
  have hm := h.mem
  obtain ⟨⟨e0, e1, e2, e3, e4, e5, h0⟩, h1, h2, _⟩ := hm
  have hp := h.hp
  exact ⟨⟨hp.blk k0, hp.blk k1⟩, ⟨hp.ne k0 h.box.1 (by omega), hp.ne k0 h0 (by omega), hp.ne k0 h1 (by omega), hp.ne k0 h2 (by omega), hp.ne k1 h.box.1 (by omega), hp.ne k1 h0 (by omega), hp.ne k1 h1 (by omega), hp.ne k1 h2 (by omega), hp.ne k0 k1 (by omega)⟩, hp.ge k0⟩
/-- the memory alone has changed. -/
theorem St.store (h : St W w χ m c0 s ba b bw bb bx gw gb v7 v8 ws xs ps es) {ws' : List Nat} (hc : Chg (fun j => j = b ∨ j = bw) w w') (hm' : MemAt w' b bw bb ws') (hl : ws'.length = ws.length) : ∃ m', St W w' χ m' c0 s ba b bw bb bx gw gb v7 v8 ws' xs ps es := by
  obtain ⟨x, y, h1, h2⟩ := h.hp.mem h.mem hc hm' hl
  refine ⟨_, h1, ?_, h2, ?_, ?_, ?_, by rw [hl]; exact h.lw, h.lx, ?_⟩
  · exact ((h.box.upd _ (by omega) (by omega)).upd _ (by omega) (by omega))
  · exact (h.ref.upd _ (by omega) (by omega) (by omega)).upd _ (by omega) (by omega) (by omega)
  · exact (h.r7.upd _ (by omega)).upd _ (by omega)
  · exact (h.r8.upd _ (by omega)).upd _ (by omega)
  · intro t e he
    exact ((h.ent t e he).upd _ (by omega) (by omega) (by omega)).upd _ (by omega) (by omega) (by omega)
/-- a word of the reference's memory is set. -/
theorem St.refset (h : St W w χ m c0 s ba b bw bb bx gw gb v7 v8 ws xs ps es) (k v : Nat) (hk : k < 4) (hv : v < 18446744073709551616) : ∃ m', St W (w.setCell ⟨gw, k, none⟩ (.int .u64 (v : Nat))) χ m' c0 s ba b bw bb bx gw gb v7 v8 ws (xs.set k v) ps es := by
  have hr := h.ref
  obtain ⟨⟨c, d0, d1, d2, d3, d4, d5, k0⟩, ⟨r, k1⟩, k2, k3, k4, k5⟩ := hr
  have hkx : k < (wordVals xs).length := by have := h.lx; simp [wordVals]; omega
  have h1 := h.hp.set k1 k (.int .u64 (v : Nat))
  rw [List.set_append_left _ _ hkx] at h1
  refine ⟨_, h1, ?_, ?_, ?_, ?_, ?_, h.lw, by rw [List.length_set]; exact h.lx, ?_⟩
  · exact (h.box.upd _ (by omega) (by omega))
  · exact h.mem.upd _ (by omega) (by omega) (by omega)
  · refine ⟨⟨c, d0, d1, d2, d3, d4, d5, ?_⟩, ⟨r, ?_⟩, ?_, ?_⟩
    · rw [HMap.upd_ne _ _ (by omega), List.length_set]; exact k0
    · rw [HMap.upd_eq]; unfold wordVals; rw [List.map_set]
    · rw [HMap.upd_ne _ _ (by omega), List.length_set]; exact k2
    · rw [List.length_set]
      refine ⟨k3, k4, fun x hx => ?_⟩
      rcases List.mem_or_eq_of_mem_set hx with h' | h'
      · exact k5 x h'
      · omega
  · exact h.r7.upd _ (by omega)
  · exact h.r8.upd _ (by omega)
  · intro t e he
    exact (h.ent t e he).upd _ (by omega) (by omega) (by omega)
theorem flat_set {es : List Ent} {t : Nat} {e e' : Ent} (he : es[t]? = some e) (hv : e'.vals = e.vals) : (es.set t e').flatMap Ent.vals = es.flatMap Ent.vals := by
  have : (es.set t e').map Ent.vals = es.map Ent.vals := by
    rw [List.map_set]
    apply List.ext_getElem?
    intro u
    rw [List.getElem?_set]
    split
    · rename_i htu; subst htu
      rw [List.getElem?_map, he]
      have := (List.getElem?_eq_some_iff.1 he).1
      simp [this, hv]
    · rfl
  rw [List.flatMap_def, List.flatMap_def, this]
/-- an operation has done a step. -/
theorem St.step (h : St W w χ m c0 s ba b bw bb bx gw gb v7 v8 ws xs ps es) {t : Nat} {e : Ent} (he : es[t]? = some e) {ws' : List Nat} {o' : NOp} (hc : Chg (fun j => j = b ∨ j = bw ∨ j = e.bo) w w') (ho : OpAt w' e.bo e.bwd o') (hm' : MemAt w' b bw bb ws') (hl : ws'.length = ws.length)
    (hw : o'.words = e.o.words) (hok : NOk o' 4) (hcode : o'.pc ≤ 2 → o'.code = 0) (ha : o'.a = 0) (hs : o'.s = s) : ∃ m', St W w' χ m' c0 s ba b bw bb bx gw gb v7 v8 ws' xs ps (es.set t { e with o := o' }) := by
  obtain ⟨k0, k1, ⟨r, k2⟩, k3⟩ := h.ent t e he
  obtain ⟨x, y, h1, h2⟩ := h.hp.mem1 h.mem k0 ⟨by omega, by omega, by omega⟩ hc hm' hl ho.1
  refine ⟨_, h1, ?_, h2, ?_, ?_, ?_, by rw [hl]; exact h.lw, h.lx, ?_⟩
  · exact (((h.box.upd _ (by omega) (by omega)).upd _ (by omega) (by omega)).upd _ (by omega) (by omega))
  · exact ((h.ref.upd _ (by omega) (by omega) (by omega)).upd _ (by omega) (by omega) (by omega)).upd _ (by omega) (by omega) (by omega)
  · exact ((h.r7.upd _ (by omega)).upd _ (by omega)).upd _ (by omega)
  · rw [List.length_set, flat_set (e := e) (e' := { e with o := o' }) he rfl]
    exact ((h.r8.upd _ (by omega)).upd _ (by omega)).upd _ (by omega)
  · intro u f hf
    rw [List.getElem?_set] at hf
    split at hf
    · rename_i htu
      subst htu
      split at hf
      · injection hf with hf
        subst hf
        refine ⟨?_, ?_, ⟨r, ?_⟩, hok, hcode, ha, hs⟩
        · rw [HMap.upd_eq]
        · rw [HMap.upd_ne _ _ (by omega), HMap.upd_ne _ _ (by omega), HMap.upd_ne _ _ (by omega), k1]
          show _ = some (e.bwd, _, intVals (o'.words.map _))
          rw [hw]
        · rw [HMap.upd_ne _ _ (by omega), HMap.upd_ne _ _ (by omega), HMap.upd_ne _ _ (by omega)]; exact k2
      · cases hf
    · rename_i htu
      exact (((h.ent u f hf).upd _ (by omega) (by omega) (by omega)).upd _ (by omega) (by omega) (by omega)).upd _ (by omega) (by omega) (by omega)
/-- the reference's memory's variable is another one's. -/
theorem St.refnew (h : St W w χ m c0 s ba b bw bb bx gw gb v7 v8 ws xs ps es) {g c : Nat} {d0 d1 d2 d3 d4 d5 : Int} {xs' : List Nat} (hc : Chg (fun j => j = bx) w w')
    (hb : Blk w' bx 56 [.slice (some ⟨g, 0, none⟩) xs'.length c, .slice (some ⟨gb, 0, none⟩) xs'.length xs'.length, .int .i64 d0, .int .i64 d1, .int .i64 d2, .int .i64 d3, .int .i64 d4, .int .i64 d5, .int .i64 (-1), .bool false])
    (hr : RefAt w' g gb xs') (hl : xs'.length = xs.length) (hg : g = gw ∨ (χ g = 0 ∧ W.heap.size ≤ g)) : ∃ χ' m', St W w' χ' m' c0 s ba b bw bb bx g gb v7 v8 ws xs' ps es := by
  have hrr := h.ref
  obtain ⟨⟨c', d0', d1', d2', d3', d4', d5', k0⟩, ⟨r, k1⟩, k2, k3, k4, k5⟩ := hrr
  have h1 := h.hp.put k0 hc hb
  obtain ⟨r', hbk⟩ := hr.words
  have h2 : ∃ χ', Hp W w' χ' ((m.upd 5 (bx, 56, [.slice (some ⟨g, 0, none⟩) xs'.length c, .slice (some ⟨gb, 0, none⟩) xs'.length xs'.length, .int .i64 d0, .int .i64 d1, .int .i64 d2, .int .i64 d3, .int .i64 d4, .int .i64 d5, .int .i64 (-1), .bool false])).upd 6 (g, 24, wordVals xs' ++ r')) := by
    rcases hg with rfl | ⟨hg, hge⟩
    · exact ⟨χ, h1.put (by rw [HMap.upd_ne _ _ (by omega)]; exact k1) (Chg.refl _ _) hbk⟩
    · obtain ⟨χ', q, _⟩ := h1.mark (t := 6) (by omega) hg hge hbk
      exact ⟨χ', q⟩
  obtain ⟨χ', h2⟩ := h2
  refine ⟨χ', _, h2, ?_, ?_, ?_, ?_, ?_, h.lw, by rw [hl]; exact h.lx, ?_⟩
  · exact ((h.box.upd _ (by omega) (by omega)).upd _ (by omega) (by omega))
  · exact (h.mem.upd _ (by omega) (by omega) (by omega)).upd _ (by omega) (by omega) (by omega)
  · refine ⟨⟨c, d0, d1, d2, d3, d4, d5, ?_⟩, ⟨r', ?_⟩, ?_, hr.pos, hr.most, hr.fit⟩
    · rw [HMap.upd_ne _ _ (by omega), HMap.upd_eq]
    · rw [HMap.upd_eq]
    · rw [HMap.upd_ne _ _ (by omega), HMap.upd_ne _ _ (by omega), hl]; exact k2
  · exact (h.r7.upd _ (by omega)).upd _ (by omega)
  · exact (h.r8.upd _ (by omega)).upd _ (by omega)
  · intro t e he
    exact ((h.ent t e he).upd _ (by omega) (by omega) (by omega)).upd _ (by omega) (by omega) (by omega)

theorem flat_get (es : List Ent) (q i : Nat) (hi : i < 9) : (es.flatMap Ent.vals)[q * 9 + i]? = (es[q]?).bind (fun e => e.vals[i]?) := by
  induction es generalizing q with
  | nil => simp
  | cons e es ih =>
    rw [List.flatMap_cons]
    cases q with
    | zero =>
      rw [List.getElem?_append_left (by rw [Ent.len]; omega)]
      simp
    | succ q =>
      rw [List.getElem?_append_right (by rw [Ent.len]; omega), Ent.len, show (q + 1) * 9 + i - 9 = q * 9 + i by omega, ih q]
      simp
theorem flat_len (es : List Ent) : (es.flatMap Ent.vals).length = es.length * 9 := by
  induction es with
  | nil => rfl
  | cons e es ih => rw [List.flatMap_cons, List.length_append, Ent.len, ih, List.length_cons]; omega
/-- values laid one behind the other. -/
def setFrom (cs : List Value) (k : Nat) : List Value → List Value
  | [] => cs
  | v :: vs => setFrom (cs.set k v) (k + 1) vs
theorem setFrom_len (vs : List Value) : ∀ (cs : List Value) (k : Nat), (setFrom cs k vs).length = cs.length := by
  induction vs with
  | nil => intro cs k; rfl
  | cons v vs ih => intro cs k; show (setFrom (cs.set k v) (k + 1) vs).length = _; rw [ih, List.length_set]
theorem setFrom_get (vs : List Value) : ∀ (cs : List Value) (k j : Nat), k + vs.length ≤ cs.length → (setFrom cs k vs)[j]? = if k ≤ j ∧ j < k + vs.length then vs[j - k]? else cs[j]? := by
  induction vs with
  | nil => intro cs k j _; simp only [setFrom, List.length_nil]; rw [if_neg (by omega)]
  | cons v vs ih =>
    intro cs k j hl
    simp only [List.length_cons] at hl ⊢
    show (setFrom (cs.set k v) (k + 1) vs)[j]? = _
    rw [ih (cs.set k v) (k + 1) j (by rw [List.length_set]; omega)]
    by_cases h1 : k + 1 ≤ j ∧ j < k + 1 + vs.length
    · rw [if_pos h1, if_pos (by omega), show j - k = (j - (k + 1)) + 1 by omega]
      rfl
    · rw [if_neg h1, List.getElem?_set]
      by_cases h2 : k = j
      · subst h2
        rw [if_pos rfl, if_pos (by omega), if_pos (by omega)]
        simp
      · rw [if_neg h2, if_neg (by omega)]
theorem set_flat {es : List Ent} {cur : List Value} (h : cur.take (es.length * 9) = es.flatMap Ent.vals) (hl : es.length * 9 ≤ cur.length) {t : Nat} (ht : t < es.length) (e' : Ent) :
    (setFrom cur (t * 9) e'.vals).take (es.length * 9) = (es.set t e').flatMap Ent.vals := by
  apply List.ext_getElem?
  intro j
  rw [List.getElem?_take]
  have hj : j = j / 9 * 9 + j % 9 := by omega
  have hj9 : j % 9 < 9 := Nat.mod_lt _ (by decide)
  have hr := flat_get (es.set t e') (j / 9) (j % 9) hj9
  rw [← hj] at hr
  rw [hr, setFrom_get _ _ _ _ (by rw [Ent.len]; omega), Ent.len]
  have h0 := flat_get es (j / 9) (j % 9) hj9
  rw [← hj, ← h, List.getElem?_take] at h0
  by_cases hjn : j < es.length * 9
  · rw [if_pos hjn]
    rw [if_pos hjn] at h0
    by_cases hq : j / 9 = t
    · subst hq
      rw [if_pos (by omega), List.getElem?_set_self ht, show j - j / 9 * 9 = j % 9 by omega]
      rfl
    · rw [if_neg (by omega), List.getElem?_set_ne (fun e => hq e.symm)]
      exact h0
  · rw [if_neg hjn, List.getElem?_eq_none (by rw [List.length_set]; omega)]
    rfl
theorem St.pos8 (h : St W w χ m c0 s ba b bw bb bx gw gb v7 v8 ws xs ps es) (hn : 0 < es.length) :
    ∃ g cap cur, v8 = .slice (some ⟨g, 0, none⟩) es.length cap ∧ m 8 = some (g, 62, cur) ∧ es.length ≤ cap ∧ cap ≤ maxLen ∧ cur.length = cap * 9 ∧ cur.take (es.length * 9) = es.flatMap Ent.vals := by
  rcases h.r8 with ⟨_, h0, _⟩ | ⟨g, cap, cur, h1, h2, h3, h4, h5, h6, _⟩
  · omega
  · exact ⟨g, cap, cur, h1, h2, h3, h4, h5, h6⟩
theorem St.pos7 (h : St W w χ m c0 s ba b bw bb bx gw gb v7 v8 ws xs ps es) (hn : 0 < ps.length) :
    ∃ g cap cur, v7 = .slice (some ⟨g, 0, none⟩) ps.length cap ∧ m 7 = some (g, 29, cur) ∧ ps.length ≤ cap ∧ cap ≤ maxLen ∧ cur.length = cap * 1 ∧ cur.take (ps.length * 1) = ptrs ps := by
  rcases h.r7 with ⟨_, h0, _⟩ | ⟨g, cap, cur, h1, h2, h3, h4, h5, h6, _⟩
  · omega
  · exact ⟨g, cap, cur, h1, h2, h3, h4, h5, h6⟩
/-- the cells of the reference's operation t. -/
theorem cell8 (hp : Hp W w χ m) {g : Nat} {cur : List Value} (hg : m 8 = some (g, 62, cur)) (hc : cur.take (es.length * 9) = es.flatMap Ent.vals) {t : Nat} {e : Ent} (he : es[t]? = some e) (i : Nat) (hi : i < 9) : w.cell? ⟨g, t * 9 + i, none⟩ = e.vals[i]? := by
  have ht := (List.getElem?_eq_some_iff.1 he).1
  rw [(hp.blk hg).cell]
  have h0 := flat_get es t i hi
  rw [← hc, List.getElem?_take, if_pos (by omega), he] at h0
  exact h0
theorem cell7 (hp : Hp W w χ m) {g : Nat} {cur : List Value} (hg : m 7 = some (g, 29, cur)) (hc : cur.take (ps.length * 1) = ptrs ps) {t p : Nat} (he : ps[t]? = some p) : w.cell? ⟨g, t, none⟩ = some (.pointer (some ⟨p, 0, none⟩)) := by
  have ht := (List.getElem?_eq_some_iff.1 he).1
  rw [(hp.blk hg).cell]
  have h0 : (cur.take (ps.length * 1))[t]? = (ptrs ps)[t]? := by rw [hc]
  rw [List.getElem?_take, if_pos (by omega)] at h0
  rw [h0]
  unfold ptrs
  rw [List.getElem?_map, he]; rfl
/-- the reference's operation t is another one. -/
theorem St.own (h : St W w χ m c0 s ba b bw bb bx gw gb v7 v8 ws xs ps es) {g cap : Nat} {cur : List Value} (hv : v8 = .slice (some ⟨g, 0, none⟩) es.length cap) (hg : m 8 = some (g, 62, cur)) (h1 : es.length ≤ cap) (h2 : cap ≤ maxLen) (h3 : cur.length = cap * 9) (h4 : cur.take (es.length * 9) = es.flatMap Ent.vals)
    {t : Nat} {e : Ent} (he : es[t]? = some e) (r' : NOp) (hw : r'.words = e.r.words) (hc : Chg (fun j => j = g) w w') (hb : Blk w' g 62 (setFrom cur (t * 9) (Ent.vals { e with r := r' }))) : ∃ m', St W w' χ m' c0 s ba b bw bb bx gw gb v7 v8 ws xs ps (es.set t { e with r := r' }) := by
  have ht := (List.getElem?_eq_some_iff.1 he).1
  refine ⟨_, h.hp.put hg hc hb, ?_, ?_, ?_, ?_, ?_, h.lw, h.lx, ?_⟩
  · exact (h.box.upd _ (by omega) (by omega))
  · exact h.mem.upd _ (by omega) (by omega) (by omega)
  · exact h.ref.upd _ (by omega) (by omega) (by omega)
  · exact h.r7.upd _ (by omega)
  · refine .inr ⟨g, cap, _, by rw [List.length_set]; exact hv, HMap.upd_eq _ _ _, by rw [List.length_set]; exact h1, h2, by rw [setFrom_len]; exact h3, ?_, by rw [flat_len]⟩
    rw [List.length_set]
    exact set_flat h4 (by have := Nat.mul_le_mul_right 9 h1; omega) ht _
  · intro u f hf
    rw [List.getElem?_set] at hf
    by_cases htu : t = u
    · subst htu
      rw [if_pos rfl, if_pos ht] at hf
      · injection hf with hf
        subst hf
        obtain ⟨k0, k1, ⟨r, k2⟩, k3⟩ := h.ent t e he
        refine ⟨?_, ?_, ⟨r, ?_⟩, k3⟩
        · rw [HMap.upd_ne _ _ (by omega)]; exact k0
        · rw [HMap.upd_ne _ _ (by omega)]; exact k1
        · rw [HMap.upd_ne _ _ (by omega), k2]
          show some (e.bq, _, intVals (e.r.words.map _) ++ r) = some (e.bq, _, intVals (r'.words.map _) ++ r)
          rw [hw]
    · rw [if_neg htu] at hf
      exact (h.ent u f hf).upd _ (by omega) (by omega) (by omega)
/-- one more pointer. -/
theorem St.app7 (h : St W w χ m c0 s ba b bw bb bx gw gb v7 v8 ws xs ps es) {v' : Value} {p : Nat} (hown : w'.ownsRow W.heap.size 29 1 v' (ps.length + 1) (ptrs ps ++ [.pointer (some ⟨p, 0, none⟩)])) (hg : w.grownBy w' v7.ownBlock) (hs : v'.ownBlock = v7.ownBlock ∨ v'.ownBlock = some w.heap.size) :
    ∃ χ' m', St W w' χ' m' c0 s ba b bw bb bx gw gb v' v8 ws xs (ps ++ [p]) es ∧ (∀ j, j < w.heap.size → χ' j = χ j) ∧ ∃ g cap, v' = .slice (some ⟨g, 0, none⟩) (ps.length + 1) cap := by
  obtain ⟨χ', g, cur, h1, h2, h3, cap, h4⟩ := h.hp.app (by omega) h.r7 (by omega) hown hg hs
  refine ⟨χ', _, ⟨h1, ?_, ?_, ?_, ?_, ?_, h.lw, h.lx, ?_⟩, h2, g, cap, h4⟩
  · exact (h.box.upd _ (by omega) (by omega))
  · exact h.mem.upd _ (by omega) (by omega) (by omega)
  · exact h.ref.upd _ (by omega) (by omega) (by omega)
  · rw [List.length_append]
    unfold ptrs at h3 ⊢
    rw [List.map_append]
    exact h3
  · exact h.r8.upd _ (by omega)
  · intro t e he
    exact (h.ent t e he).upd _ (by omega) (by omega) (by omega)
/-- one more of the reference's operations; and what belongs to the new one is marked. -/
theorem St.app8 (h : St W w χ m c0 s ba b bw bb bx gw gb v7 v8 ws xs ps es) {v' : Value} {e : Ent} (hown : w'.ownsRow W.heap.size 62 9 v' (es.length + 1) (es.flatMap Ent.vals ++ e.vals)) (hg : w.grownBy w' v8.ownBlock) (hs : v'.ownBlock = v8.ownBlock ∨ v'.ownBlock = some w.heap.size)
    (ho : OpAt w e.bo e.bwd e.o) {rest : List Value} (hq : Blk w e.bq 3 (intVals (e.r.words.map fun x : Nat => (x : Int)) ++ rest)) (f0 : χ e.bo = 0) (f1 : χ e.bwd = 0) (f2 : χ e.bq = 0) (n1 : e.bo ≠ e.bwd) (n2 : e.bo ≠ e.bq) (n3 : e.bwd ≠ e.bq) (q0 : W.heap.size ≤ e.bo) (q1 : W.heap.size ≤ e.bwd) (q2 : W.heap.size ≤ e.bq)
    (hok : NOk e.o 4) (hcode : e.o.pc ≤ 2 → e.o.code = 0) (ha : e.o.a = 0) (hss : e.o.s = s) :
    ∃ χ' m', St W w' χ' m' c0 s ba b bw bb bx gw gb v7 v' ws xs ps (es ++ [e]) ∧ ∃ g cap, v' = .slice (some ⟨g, 0, none⟩) (es.length + 1) cap := by
  obtain ⟨χ1, g, cur, h1, h2, h3, cap, h4⟩ := h.hp.app (by omega) h.r8 (by omega) hown hg hs
  have hne : ∀ k, χ k = 0 → some k ≠ v8.ownBlock := by
    intro k hk hek
    rcases h.r8 with ⟨hv, _⟩ | ⟨g', cap', cur', hv, hm', _⟩
    · rw [hv] at hek; simp [Value.ownBlock] at hek
    · rw [hv] at hek
      have : k = g' := by simpa [Value.ownBlock] using hek
      subst this
      obtain ⟨_, hx, _⟩ := h.hp.has _ _ _ _ hm'
      omega
  have l0 := ho.1.lt
  have l1 := ho.2.lt
  have l2 := hq.lt
  have b0 : Blk w' e.bo _ _ := (hg.block e.bo l0 (hne _ f0)).trans ho.1
  have b1 : Blk w' e.bwd _ _ := (hg.block e.bwd l1 (hne _ f1)).trans ho.2
  have b2 : Blk w' e.bq _ _ := (hg.block e.bq l2 (hne _ f2)).trans hq
  obtain ⟨χ2, p1, p2⟩ := h1.mark (t := 20 + 3 * es.length) (by omega) ((h2 _ l0).trans f0) q0 b0
  obtain ⟨χ3, p3, p4⟩ := p1.mark (t := 21 + 3 * es.length) (by omega) ((p2 _ n1.symm).trans ((h2 _ l1).trans f1)) q1 b1
  obtain ⟨χ4, p5, p6⟩ := p3.mark (t := 22 + 3 * es.length) (by omega) ((p4 _ n3.symm).trans ((p2 _ n2.symm).trans ((h2 _ l2).trans f2))) q2 b2
  refine ⟨χ4, _, ⟨p5, ?_, ?_, ?_, ?_, ?_, h.lw, h.lx, ?_⟩, g, cap, h4⟩
  · exact ((((h.box.upd _ (by omega) (by omega)).upd _ (by omega) (by omega)).upd _ (by omega) (by omega)).upd _ (by omega) (by omega))
  · exact (((h.mem.upd _ (by omega) (by omega) (by omega)).upd _ (by omega) (by omega) (by omega)).upd _ (by omega) (by omega) (by omega)).upd _ (by omega) (by omega) (by omega)
  · exact (((h.ref.upd _ (by omega) (by omega) (by omega)).upd _ (by omega) (by omega) (by omega)).upd _ (by omega) (by omega) (by omega)).upd _ (by omega) (by omega) (by omega)
  · exact (((h.r7.upd _ (by omega)).upd _ (by omega)).upd _ (by omega)).upd _ (by omega)
  · rw [List.length_append, List.flatMap_append, List.flatMap_cons, List.flatMap_nil, List.append_nil]
    exact ((h3.upd _ (by omega)).upd _ (by omega)).upd _ (by omega)
  · intro t f hf
    rcases Nat.lt_or_ge t es.length with ht | ht
    · rw [List.getElem?_append_left ht] at hf
      exact ((((h.ent t f hf).upd _ (by omega) (by omega) (by omega)).upd _ (by omega) (by omega) (by omega)).upd _ (by omega) (by omega) (by omega)).upd _ (by omega) (by omega) (by omega)
    · rw [List.getElem?_append_right ht] at hf
      have hte : t = es.length := by
        rcases Nat.eq_zero_or_pos (t - es.length) with h0 | h0
        · omega
        · rw [List.getElem?_eq_none (by simp; omega)] at hf; cases hf
      subst hte
      simp at hf
      subst hf
      refine ⟨?_, ?_, ⟨rest, ?_⟩, hok, hcode, ha, hss⟩
      · rw [HMap.upd_ne _ _ (by omega), HMap.upd_ne _ _ (by omega), HMap.upd_eq]
      · rw [HMap.upd_ne _ _ (by omega), HMap.upd_eq]
      · rw [HMap.upd_eq]
theorem Hp.mem_new (h : Hp W w χ m) {p b bw bb : Nat} {ws : List Nat} (hb : Below w.heap.size w w') (hm : MemAt w' b bw bb ws) (h1 : w.heap.size ≤ b) (h2 : w.heap.size ≤ bw) (h3 : w.heap.size ≤ bb) (hp : p ≠ 0) :
    ∃ χ' x y z, Hp W w' χ' (((m.upd p x).upd (p + 1) y).upd (p + 2) z) ∧ MemIn (((m.upd p x).upd (p + 1) y).upd (p + 2) z) p b bw bb ws := by
  obtain ⟨d0, d1, d2, d3, d4, d5, k0⟩ := hm.top
  have hs := h.below.size
  have hk := h.keep hb
  have f0 := h.fresh h1
  have f1 := h.fresh h2
  have f2 := h.fresh h3
  obtain ⟨χ1, p1, p2⟩ := hk.mark (t := p) hp f0 (by omega) k0
  obtain ⟨χ2, p3, p4⟩ := p1.mark (t := p + 1) (by omega) ((p2 _ hm.ne1.symm).trans f1) (by omega) hm.words
  obtain ⟨χ3, p5, p6⟩ := p3.mark (t := p + 2) (by omega) ((p4 _ hm.ne3.symm).trans ((p2 _ hm.ne2.symm).trans f2)) (by omega) hm.marks
  refine ⟨χ3, _, _, _, p5, ⟨d0, d1, d2, d3, d4, d5, ?_⟩, ?_, HMap.upd_eq _ _ _, hm.pos, hm.most, hm.fit⟩
  · rw [HMap.upd_ne _ _ (by omega), HMap.upd_ne _ _ (by omega), HMap.upd_eq]
  · rw [HMap.upd_ne _ _ (by omega), HMap.upd_eq]
/-- the reference's memory is made, and its variable. -/
theorem Hp.ref_new (h : Hp W w χ m) {gw gb : Nat} {xs : List Nat} {c : Nat} {d0 d1 d2 d3 d4 d5 : Int} (hb : Below w.heap.size w w') (hr : RefAt w' gw gb xs) (h1 : w.heap.size ≤ gw) (h2 : w.heap.size ≤ gb) :
    ∃ χ' x y z, Hp W (w'.alloc (.cells #[.slice (some ⟨gw, 0, none⟩) xs.length c, .slice (some ⟨gb, 0, none⟩) xs.length xs.length, .int .i64 d0, .int .i64 d1, .int .i64 d2, .int .i64 d3, .int .i64 d4, .int .i64 d5, .int .i64 (-1), .bool false] 56)) χ' (((m.upd 6 x).upd 9 y).upd 5 z) ∧
      RefIn (((m.upd 6 x).upd 9 y).upd 5 z) w'.heap.size gw gb xs := by
  obtain ⟨r, k0⟩ := hr.words
  have hs := h.below.size
  have hk := h.keep hb
  obtain ⟨χ1, p1, p2⟩ := hk.mark (t := 6) (by omega) (h.fresh h1) (by omega) k0
  obtain ⟨χ2, p3, p4⟩ := p1.mark (t := 9) (by omega) ((p2 _ hr.ne.symm).trans (h.fresh h2)) (by omega) hr.marks
  obtain ⟨χ3, p5, p6⟩ := p3.add (t := 5) (bnew (Below.refl _ _) _) (by omega) (Nat.le_refl _) (blk_new w' 56 #[.slice (some ⟨gw, 0, none⟩) xs.length c, .slice (some ⟨gb, 0, none⟩) xs.length xs.length, .int .i64 d0, .int .i64 d1, .int .i64 d2, .int .i64 d3, .int .i64 d4, .int .i64 d5, .int .i64 (-1), .bool false] _ rfl)
  refine ⟨χ3, _, _, _, p5, ⟨c, d0, d1, d2, d3, d4, d5, HMap.upd_eq _ _ _⟩, ⟨r, ?_⟩, ?_, hr.pos, hr.most, hr.fit⟩
  · rw [HMap.upd_ne _ _ (by omega), HMap.upd_ne _ _ (by omega), HMap.upd_eq]
  · rw [HMap.upd_ne _ _ (by omega), HMap.upd_eq]
theorem Hp.refset (h : Hp W w χ m) {bx gw gb : Nat} {xs : List Nat} (hr : RefIn m bx gw gb xs) (k v : Nat) (hk : k < xs.length) (hv : v < 18446744073709551616) : ∃ x, Hp W (w.setCell ⟨gw, k, none⟩ (.int .u64 (v : Nat))) χ (m.upd 6 x) ∧ RefIn (m.upd 6 x) bx gw gb (xs.set k v) := by
  obtain ⟨⟨c, d0, d1, d2, d3, d4, d5, k0⟩, ⟨r, k1⟩, k2, k3, k4, k5⟩ := hr
  have hkx : k < (wordVals xs).length := by simp [wordVals]; omega
  have h1 := h.set k1 k (.int .u64 (v : Nat))
  rw [List.set_append_left _ _ hkx] at h1
  refine ⟨_, h1, ⟨c, d0, d1, d2, d3, d4, d5, ?_⟩, ⟨r, ?_⟩, ?_, ?_⟩
  · rw [HMap.upd_ne _ _ (by omega), List.length_set]; exact k0
  · rw [HMap.upd_eq]; unfold wordVals; rw [List.map_set]
  · rw [HMap.upd_ne _ _ (by omega), List.length_set]; exact k2
  · rw [List.length_set]
    refine ⟨k3, k4, fun x hx => ?_⟩
    rcases List.mem_or_eq_of_mem_set hx with h' | h'
    · exact k5 x h'
    · omega
/-- all that stands ahead of the first loop. -/
theorem st_start {W w1 w2 : World} {s b bw bb gw gb : Nat} (hm : MemAt w1 b bw bb [0, 0, 0, 0]) (h1 : W.heap.size + 1 ≤ b) (h2 : W.heap.size + 1 ≤ bw) (h3 : W.heap.size + 1 ≤ bb)
    (hb1 : Below (W.heap.size + 1) (W.alloc (.cells #[.int .i64 0, .int .i64 (s : Int)] 23)) w1) (hr : RefAt w2 gw gb [0, 0, 0, 0]) (h4 : w1.heap.size ≤ gw) (h5 : w1.heap.size ≤ gb) (hb2 : Below w1.heap.size w1 w2) :
    ∃ χ m, Hp W (w2.alloc (.cells #[.slice (some ⟨gw, 0, none⟩) 4 4, .slice (some ⟨gb, 0, none⟩) 4 4, .int .i64 0, .int .i64 0, .int .i64 0, .int .i64 0, .int .i64 0, .int .i64 0, .int .i64 (-1), .bool false] 56)) χ m ∧
      m 1 = some (W.heap.size, 23, [.int .i64 0, .int .i64 (s : Nat)]) ∧ MemIn m 2 b bw bb [0, 0, 0, 0] ∧ RefIn m w2.heap.size gw gb [0, 0, 0, 0] := by
  obtain ⟨χ1, p1, _⟩ := (hp_start W).add (t := 1) (bnew (Below.refl _ _) _) (by omega) (Nat.le_refl _) (blk_new W 23 #[.int .i64 0, .int .i64 (s : Int)] _ rfl)
  obtain ⟨χ2, x, y, z, p2, p3⟩ := p1.mem_new (p := 2) (by simpa using hb1) hm (by simpa using h1) (by simpa using h2) (by simpa using h3) (by omega)
  obtain ⟨χ3, x', y', z', p4, p5⟩ := p2.ref_new (c := 4) (d0 := 0) (d1 := 0) (d2 := 0) (d3 := 0) (d4 := 0) (d5 := 0) hb2 hr h4 h5
  refine ⟨χ3, _, p4, ?_, ?_, p5⟩
  · rw [HMap.upd_ne _ _ (by omega), HMap.upd_ne _ _ (by omega), HMap.upd_ne _ _ (by omega), HMap.upd_ne _ _ (by omega), HMap.upd_ne _ _ (by omega), HMap.upd_ne _ _ (by omega), HMap.upd_eq]
  · exact ((p3.upd _ (by omega) (by omega) (by omega)).upd _ (by omega) (by omega) (by omega)).upd _ (by omega) (by omega) (by omega)
/-- .. and the numbers 1, 2, 3. -/
theorem st_start2 (h : Hp W w χ m) {c0 s b bw bb bx gw gb : Nat} {ws xs : List Nat} (h1 : m 1 = some (c0, 23, [.int .i64 0, .int .i64 (s : Nat)])) (h2 : MemIn m 2 b bw bb ws) (h3 : RefIn m bx gw gb xs) (l1 : ws.length = 4) (l2 : xs.length = 4) :
    ∃ χ' m', St W (w.alloc (.cells #[.int .i64 1, .int .i64 2, .int .i64 3] 3)) χ' m' c0 s w.heap.size b bw bb bx gw gb (.slice none 0 0) (.slice none 0 0) ws xs [] [] := by
  obtain ⟨χ1, p1, _⟩ := h.add (t := 10) (bnew (Below.refl _ _) _) (by omega) (Nat.le_refl _) (blk_new w 3 #[.int .i64 1, .int .i64 2, .int .i64 3] _ rfl)
  refine ⟨χ1, _, p1, ⟨?_, HMap.upd_eq _ _ _⟩, h2.upd _ (by omega) (by omega) (by omega), h3.upd _ (by omega) (by omega) (by omega), .inl ⟨rfl, rfl, rfl⟩, .inl ⟨rfl, rfl, rfl⟩, l1, l2, fun t e he => by simp at he⟩
  rw [HMap.upd_ne _ _ (by omega)]; exact h1
/-- a step keeps what is to be of an operation. -/
theorem stepN_ok {o : NOp} {ws : List Nat} (h : NOk o ws.length) (hf : ∀ x ∈ ws, x < 18446744073709551616) (hc : o.pc ≤ 2 → o.code = 0) :
    NOk (stepN o ws).1 ws.length ∧ ((stepN o ws).1.pc ≤ 2 → (stepN o ws).1.code = 0) ∧ (stepN o ws).1.a = o.a ∧ (stepN o ws).1.s = o.s ∧ (stepN o ws).1.words = o.words ∧ (stepN o ws).2.length = ws.length := by
  have hx : ∀ a, ws.getD a 0 < 18446744073709551616 := fun a => by
    rcases Nat.lt_or_ge a ws.length with ha | ha
    · rw [show ws.getD a 0 = ws[a] by simp [List.getD, ha]]; exact hf _ (List.getElem_mem ha)
    · rw [show ws.getD a 0 = 0 by simp [List.getD, List.getElem?_eq_none ha]]; omega
  obtain ⟨a, s, m, words, pc, k, p, g, code⟩ := o
  obtain ⟨h1, h2, h3, h4, h5, h6, h7, h8, h9⟩ := h
  dsimp only at h1 h2 h3 h4 h5 h6 h7 h8 h9 hc
  have hg : ∀ c, askG k (ws.getD c 0) g < 18446744073709551616 := fun c => by
    unfold askG
    split
    · exact hx c
    · exact h7
  have n31 : ¬ (3 : Nat) = 1 := by decide
  have n21 : ¬ (2 : Nat) = 1 := by decide
  have n01 : ¬ (0 : Nat) = 1 := by decide
  have n32 : ¬ (3 : Nat) ≤ 2 := by decide
  have l23 : (2 : Nat) ≤ 3 := by decide
  have l13 : (1 : Nat) ≤ 3 := by decide
  have l03 : (0 : Nat) ≤ 3 := by decide
  match pc, h9 with
  | 0, _ =>
    obtain rfl : code = 0 := hc (by decide)
    by_cases hm : m = 0
    · have e : stepN ⟨a, s, m, words, 0, k, p, g, 0⟩ ws = (⟨a, s, m, words, 3, 0, ws.getD a 0, g, 0⟩, ws) := by simp [stepN, hm]
      rw [e]
      exact ⟨⟨h1, h2, h3, h4, h5, hx a, h7, fun h => absurd h n31, Nat.le_refl _⟩, fun _ => rfl, rfl, rfl, rfl, rfl⟩
    · by_cases hw : words.length = 0
      · have e : stepN ⟨a, s, m, words, 0, k, p, g, 0⟩ ws = (⟨a, s, m, words, 2, 0, ws.getD a 0, g, 0⟩, ws) := by simp [stepN, hm, List.eq_nil_of_length_eq_zero hw]
        rw [e]
        exact ⟨⟨h1, h2, h3, h4, h5, hx a, h7, fun h => absurd h n21, l23⟩, fun _ => rfl, rfl, rfl, rfl, rfl⟩
      · have e : stepN ⟨a, s, m, words, 0, k, p, g, 0⟩ ws = (⟨a, s, m, words, 1, 0, ws.getD a 0, g, 0⟩, ws) := by
          have : ¬ words = [] := by intro h'; subst h'; simp at hw
          simp [stepN, hm, this]
        rw [e]
        exact ⟨⟨h1, h2, h3, h4, h5, hx a, h7, fun _ => Nat.pos_of_ne_zero hw, l13⟩, fun _ => rfl, rfl, rfl, rfl, rfl⟩
  | 1, _ =>
    obtain rfl : code = 0 := hc (by decide)
    obtain ⟨G, hG⟩ : ∃ G, askG k (ws.getD (words.getD k 0) 0) g = G := ⟨_, rfl⟩
    have hgl : G < 18446744073709551616 := by rw [← hG]; exact hg _
    have key : stepN ⟨a, s, m, words, 1, k, p, g, 0⟩ ws = if k + 1 < words.length then (⟨a, s, m, words, 1, k + 1, p, G, 0⟩, ws) else if heldN s m p G then (⟨a, s, m, words, 3, k + 1, 0, G, 15⟩, ws) else (⟨a, s, m, words, 2, k + 1, p, G, 0⟩, ws) := by
      simp only [stepN, hG]
    rw [key]
    by_cases hk : k + 1 < words.length
    · rw [if_pos hk]
      exact ⟨⟨h1, h2, h3, h4, h5, h6, hgl, fun _ => hk, l13⟩, fun _ => rfl, rfl, rfl, rfl, rfl⟩
    · rw [if_neg hk]
      cases heldN s m p G
      · exact ⟨⟨h1, h2, h3, h4, h5, h6, hgl, fun h => absurd h n21, l23⟩, fun _ => rfl, rfl, rfl, rfl, rfl⟩
      · exact ⟨⟨h1, h2, h3, h4, h5, by show 0 < 18446744073709551616; decide, hgl, fun h => absurd h n31, Nat.le_refl _⟩, fun h => absurd h n32, rfl, rfl, rfl, rfl⟩
  | 2, _ =>
    obtain rfl : code = 0 := hc (by decide)
    by_cases he : ws.getD a 0 = p
    · have e : stepN ⟨a, s, m, words, 2, k, p, g, 0⟩ ws = (⟨a, s, m, words, 3, k, p, g, 0⟩, ws.set a ((p + m) % 18446744073709551616)) := by simp only [stepN, he, if_true]
      rw [e]
      exact ⟨⟨h1, h2, h3, h4, h5, h6, h7, fun h => absurd h n31, Nat.le_refl _⟩, fun _ => rfl, rfl, rfl, rfl, by rw [List.length_set]⟩
    · have e : stepN ⟨a, s, m, words, 2, k, p, g, 0⟩ ws = (⟨a, s, m, words, 0, k, p, g, 0⟩, ws) := by simp only [stepN, he, if_false]
      rw [e]
      exact ⟨⟨h1, h2, h3, h4, h5, h6, h7, fun h => absurd h n01, l03⟩, fun _ => rfl, rfl, rfl, rfl, rfl⟩
  | 3, _ => exact ⟨⟨h1, h2, h3, h4, h5, h6, h7, h8, Nat.le_refl _⟩, hc, rfl, rfl, rfl, rfl⟩
end Go.Proofs.Ytobdpieijgiaoaa
