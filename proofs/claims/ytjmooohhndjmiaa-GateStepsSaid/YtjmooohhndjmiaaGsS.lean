/- GateSteps: what stands in the world at the loops' heads, and what each event leaves of it. (gengss.py) -/
import Derived.Test.YtjmooohhndjmiaaHeap
import Derived.Test.YtjmooohhndjmiaaRgR
import Derived.Test.YtjmooohhndjmiaaRefM
import Derived.Test.YtjmooohhndjmiaaGatV
namespace Go.Proofs.Ytjmooohhndjmiaa
open Go.RowKit Go.Deep
set_option linter.unusedVariables false
set_option linter.unusedSimpArgs false

def RefIn (m : HMap) (bx gw gb : Nat) (xs : List Nat) : Prop :=
  (∃ (c : Nat) (d0 d1 d2 d3 d4 d5 : Int), m 5 = some (bx, 34, [.slice (some ⟨gw, 0, none⟩) xs.length c, .slice (some ⟨gb, 0, none⟩) xs.length xs.length, .int .i64 d0, .int .i64 d1, .int .i64 d2, .int .i64 d3, .int .i64 d4, .int .i64 d5, .int .i64 (-1), .bool false])) ∧
    (∃ rest, m 6 = some (gw, 40, wordVals xs ++ rest)) ∧ m 9 = some (gb, 4, List.replicate xs.length (.bool false)) ∧ 0 < xs.length ∧ xs.length ≤ 65536 ∧ ∀ x ∈ xs, x < 18446744073709551616
variable {W w w' : World} {χ : Nat → Nat} {m : HMap}
theorem RefIn.at (h : Hp W w χ m) {bx gw gb : Nat} {xs : List Nat} (hr : RefIn m bx gw gb xs) : RefAt w gw gb xs := by
  obtain ⟨_, ⟨r, h1⟩, h2, h3, h4, h5⟩ := hr
  exact ⟨⟨r, h.blk h1⟩, h.blk h2, h.ne h1 h2 (by omega), h3, h4, h5⟩
theorem RefIn.upd {bx gw gb : Nat} {xs : List Nat} (hr : RefIn m bx gw gb xs) {u : Nat} (x : Nat × TypeId × List Value) (h5 : 5 ≠ u) (h6 : 6 ≠ u) (h9 : 9 ≠ u) : RefIn (m.upd u x) bx gw gb xs := by
  obtain ⟨⟨c, d0, d1, d2, d3, d4, d5, k0⟩, ⟨r, k1⟩, k2, k3⟩ := hr
  exact ⟨⟨c, d0, d1, d2, d3, d4, d5, by rw [HMap.upd_ne _ _ h5]; exact k0⟩, ⟨r, by rw [HMap.upd_ne _ _ h6]; exact k1⟩, by rw [HMap.upd_ne _ _ h9]; exact k2, k3⟩

/-- an operation, and the reference's. -/
structure Ent where
  bo : Nat
  o : GOp
  r : ROp
def Ent.vals (e : Ent) : List Value := e.r.vals
theorem Ent.len (e : Ent) : e.vals.length = 8 := rfl
def EntIn (m : HMap) (M t : Nat) (e : Ent) : Prop :=
  m (20 + t) = some (e.bo, 88, e.o.cells 1 M 0) ∧ GIn M e.o ∧ GX M e.o
theorem EntIn.upd {M t : Nat} {e : Ent} (h : EntIn m M t e) {u : Nat} (x : Nat × TypeId × List Value) (h0 : 20 + t ≠ u) : EntIn (m.upd u x) M t e := by
  obtain ⟨k0, k3⟩ := h
  exact ⟨by rw [HMap.upd_ne _ _ h0]; exact k0, k3⟩
def ptrs (ps : List Nat) : List Value := ps.map fun p => .pointer (some ⟨p, 0, none⟩)
/-- the gate's variable. -/
def BoxIn (m : HMap) (c0 M : Nat) : Prop := m 1 = some (c0, 25, [.int .i64 1, .int .i64 (M : Nat), .int .i64 0])
theorem BoxIn.upd {c0 M : Nat} (h : BoxIn m c0 M) {u : Nat} (x : Nat × TypeId × List Value) (h1 : 1 ≠ u) : BoxIn (m.upd u x) c0 M := by unfold BoxIn; rw [HMap.upd_ne _ _ h1]; exact h
structure St (W w : World) (χ : Nat → Nat) (m : HMap) (c0 M b bw bb bx gw gb : Nat) (v7 v8 : Value) (ws xs ps : List Nat) (es : List Ent) : Prop where
  hp : Hp W w χ m
  box : BoxIn m c0 M
  mem : MemIn m 2 b bw bb ws
  ref : RefIn m bx gw gb xs
  r7 : RowIn m 7 45 1 v7 ps.length (ptrs ps)
  r8 : RowIn m 8 44 8 v8 es.length (es.flatMap Ent.vals)
  lw : ws.length = 6
  lx : xs.length = 6
  ent : ∀ t e, es[t]? = some e → EntIn m M t e
variable {c0 M b bw bb bx gw gb : Nat} {v7 v8 : Value} {ws xs ps : List Nat} {es : List Ent}
theorem St.keep (h : St W w χ m c0 M b bw bb bx gw gb v7 v8 ws xs ps es) (hb : Below w.heap.size w w') : St W w' χ m c0 M b bw bb bx gw gb v7 v8 ws xs ps es :=
  ⟨h.hp.keep hb, h.box, h.mem, h.ref, h.r7, h.r8, h.lw, h.lx, h.ent⟩
theorem St.alloc (h : St W w χ m c0 M b bw bb bx gw gb v7 v8 ws xs ps es) (o : Obj) : St W (w.alloc o) χ m c0 M b bw bb bx gw gb v7 v8 ws xs ps es := h.keep (bnew (Below.refl _ _) o)
theorem St.drew (h : St W w χ m c0 M b bw bb bx gw gb v7 v8 ws xs ps es) : St W w.drew χ m c0 M b bw bb bx gw gb v7 v8 ws xs ps es := h.keep (Below.refl _ _).drew
theorem St.free (h : St W w χ m c0 M b bw bb bx gw gb v7 v8 ws xs ps es) {p : Nat} (hp : χ p = 0) (hge : W.heap.size ≤ p) (hc : Chg (fun j => j = p) w w') : St W w' χ m c0 M b bw bb bx gw gb v7 v8 ws xs ps es :=
  ⟨h.hp.free hp hge hc, h.box, h.mem, h.ref, h.r7, h.r8, h.lw, h.lx, h.ent⟩
theorem St.sys (h : St W w χ m c0 M b bw bb bx gw gb v7 v8 ws xs ps es) : GSys W w c0 1 M 0 b bw bb ws := by
  have hm := h.mem
  have hb := h.box
  unfold BoxIn at hb
  obtain ⟨⟨e0, e1, e2, e3, e4, e5, h0⟩, h1, h2, _⟩ := hm
  exact ⟨h.hp.below, h.hp.blk hb, h.mem.at h.hp, h.hp.ge hb, h.hp.ge h0, h.hp.ge h1, h.hp.ge h2, h.hp.ne hb h0 (by omega), h.hp.ne hb h1 (by omega), h.hp.ne hb h2 (by omega)⟩
theorem St.at (h : St W w χ m c0 M b bw bb bx gw gb v7 v8 ws xs ps es) {t : Nat} {e : Ent} (he : es[t]? = some e) : Blk w e.bo 88 (e.o.cells 1 M 0) ∧ GApart W c0 b bw bb e.bo := by
  obtain ⟨k0, _⟩ := h.ent t e he
  have hm := h.mem
  have hb := h.box
  unfold BoxIn at hb
  obtain ⟨⟨e0, e1, e2, e3, e4, e5, h0⟩, h1, h2, _⟩ := hm
  have hp := h.hp
  exact ⟨hp.blk k0, ⟨hp.ge k0, hp.ne k0 hb (by omega), hp.ne k0 h0 (by omega), hp.ne k0 h1 (by omega), hp.ne k0 h2 (by omega)⟩⟩
theorem St.store (h : St W w χ m c0 M b bw bb bx gw gb v7 v8 ws xs ps es) {ws' : List Nat} (hc : Chg (fun j => j = b ∨ j = bw) w w') (hm' : MemAt w' b bw bb ws') (hl : ws'.length = ws.length) : ∃ m', St W w' χ m' c0 M b bw bb bx gw gb v7 v8 ws' xs ps es := by
  obtain ⟨x, y, h1, h2⟩ := h.hp.mem h.mem hc hm' hl
  refine ⟨_, h1, ?_, h2, ?_, ?_, ?_, by rw [hl]; exact h.lw, h.lx, ?_⟩
  · exact ((h.box.upd _ (by omega)).upd _ (by omega))
  · exact (h.ref.upd _ (by omega) (by omega) (by omega)).upd _ (by omega) (by omega) (by omega)
  · exact (h.r7.upd _ (by omega)).upd _ (by omega)
  · exact (h.r8.upd _ (by omega)).upd _ (by omega)
  · intro t e he
    exact ((h.ent t e he).upd _ (by omega)).upd _ (by omega)
theorem St.refset (h : St W w χ m c0 M b bw bb bx gw gb v7 v8 ws xs ps es) (k v : Nat) (hk : k < 6) (hv : v < 18446744073709551616) : ∃ m', St W (w.setCell ⟨gw, k, none⟩ (.int .u64 (v : Nat))) χ m' c0 M b bw bb bx gw gb v7 v8 ws (xs.set k v) ps es := by
  have hr := h.ref
  obtain ⟨⟨c, d0, d1, d2, d3, d4, d5, k0⟩, ⟨r, k1⟩, k2, k3, k4, k5⟩ := hr
  have hkx : k < (wordVals xs).length := by have := h.lx; simp [wordVals]; omega
  have h1 := h.hp.set k1 k (.int .u64 (v : Nat))
  rw [List.set_append_left _ _ hkx] at h1
  refine ⟨_, h1, ?_, ?_, ?_, ?_, ?_, h.lw, by rw [List.length_set]; exact h.lx, ?_⟩
  · exact (h.box.upd _ (by omega))
  · exact h.mem.upd _ (by omega) (by omega) (by omega)
  · refine ⟨⟨c, d0, d1, d2, d3, d4, d5, ?_⟩, ⟨r, ?_⟩, ?_, ?_⟩
    · rw [HMap.upd_ne _ _ (by omega), List.length_set]; exact k0
    · rw [HMap.upd_eq]; unfold wordVals; rw [List.map_set]
    · rw [HMap.upd_ne _ _ (by omega), List.length_set]; exact k2
    · rw [List.length_set]
      refine ⟨k3, k4, fun x hx => ?_⟩
      rcases List.mem_or_eq_of_mem_set hx with h' | h'
      · exact k5 x h'
      · omega
  · exact h.r7.upd _ (by omega)
  · exact h.r8.upd _ (by omega)
  · intro t e he
    exact (h.ent t e he).upd _ (by omega)
theorem flat_set {es : List Ent} {t : Nat} {e e' : Ent} (he : es[t]? = some e) (hv : e'.vals = e.vals) : (es.set t e').flatMap Ent.vals = es.flatMap Ent.vals := by
  have : (es.set t e').map Ent.vals = es.map Ent.vals := by
    rw [List.map_set]
    apply List.ext_getElem?
    intro u
    rw [List.getElem?_set]
    split
    · rename_i htu; subst htu
      rw [List.getElem?_map, he]
      have := (List.getElem?_eq_some_iff.1 he).1
      simp [this, hv]
    · rfl
  rw [List.flatMap_def, List.flatMap_def, this]
/-- an operation has done a step. -/
theorem St.step (h : St W w χ m c0 M b bw bb bx gw gb v7 v8 ws xs ps es) {t : Nat} {e : Ent} (he : es[t]? = some e) {ws' : List Nat} {o' : GOp} (hc : Chg (fun j => j = b ∨ j = bw ∨ j = e.bo) w w') (ho : Blk w' e.bo 88 (o'.cells 1 M 0)) (hm' : MemAt w' b bw bb ws') (hl : ws'.length = ws.length)
    (hok : GIn M o') (hx : GX M o') : ∃ m', St W w' χ m' c0 M b bw bb bx gw gb v7 v8 ws' xs ps (es.set t { e with o := o' }) := by
  obtain ⟨k0, k3⟩ := h.ent t e he
  obtain ⟨x, y, h1, h2⟩ := h.hp.mem1 h.mem k0 ⟨by omega, by omega, by omega⟩ hc hm' hl ho
  refine ⟨_, h1, ?_, h2, ?_, ?_, ?_, by rw [hl]; exact h.lw, h.lx, ?_⟩
  · exact ((h.box.upd _ (by omega)).upd _ (by omega)).upd _ (by omega)
  · exact ((h.ref.upd _ (by omega) (by omega) (by omega)).upd _ (by omega) (by omega) (by omega)).upd _ (by omega) (by omega) (by omega)
  · exact ((h.r7.upd _ (by omega)).upd _ (by omega)).upd _ (by omega)
  · rw [List.length_set, flat_set (e := e) (e' := { e with o := o' }) he rfl]
    exact ((h.r8.upd _ (by omega)).upd _ (by omega)).upd _ (by omega)
  · intro u f hf
    rw [List.getElem?_set] at hf
    split at hf
    · rename_i htu
      subst htu
      split at hf
      · injection hf with hf
        subst hf
        exact ⟨by rw [HMap.upd_eq], hok, hx⟩
      · cases hf
    · rename_i htu
      exact (((h.ent u f hf).upd _ (by omega)).upd _ (by omega)).upd _ (by omega)
theorem St.refnew (h : St W w χ m c0 M b bw bb bx gw gb v7 v8 ws xs ps es) {g c : Nat} {d0 d1 d2 d3 d4 d5 : Int} {xs' : List Nat} (hc : Chg (fun j => j = bx) w w')
    (hb : Blk w' bx 34 [.slice (some ⟨g, 0, none⟩) xs'.length c, .slice (some ⟨gb, 0, none⟩) xs'.length xs'.length, .int .i64 d0, .int .i64 d1, .int .i64 d2, .int .i64 d3, .int .i64 d4, .int .i64 d5, .int .i64 (-1), .bool false])
    (hr : RefAt w' g gb xs') (hl : xs'.length = xs.length) (hg : g = gw ∨ (χ g = 0 ∧ W.heap.size ≤ g)) : ∃ χ' m', St W w' χ' m' c0 M b bw bb bx g gb v7 v8 ws xs' ps es := by
  have hrr := h.ref
  obtain ⟨⟨c', d0', d1', d2', d3', d4', d5', k0⟩, ⟨r, k1⟩, k2, k3, k4, k5⟩ := hrr
  have h1 := h.hp.put k0 hc hb
  obtain ⟨r', hbk⟩ := hr.words
  have h2 : ∃ χ', Hp W w' χ' ((m.upd 5 (bx, 34, [.slice (some ⟨g, 0, none⟩) xs'.length c, .slice (some ⟨gb, 0, none⟩) xs'.length xs'.length, .int .i64 d0, .int .i64 d1, .int .i64 d2, .int .i64 d3, .int .i64 d4, .int .i64 d5, .int .i64 (-1), .bool false])).upd 6 (g, 40, wordVals xs' ++ r')) := by
    rcases hg with rfl | ⟨hg, hge⟩
    · exact ⟨χ, h1.put (by rw [HMap.upd_ne _ _ (by omega)]; exact k1) (Chg.refl _ _) hbk⟩
    · obtain ⟨χ', q, _⟩ := h1.mark (t := 6) (by omega) hg hge hbk
      exact ⟨χ', q⟩
  obtain ⟨χ', h2⟩ := h2
  refine ⟨χ', _, h2, ?_, ?_, ?_, ?_, ?_, h.lw, by rw [hl]; exact h.lx, ?_⟩
  · exact ((h.box.upd _ (by omega)).upd _ (by omega))
  · exact (h.mem.upd _ (by omega) (by omega) (by omega)).upd _ (by omega) (by omega) (by omega)
  · refine ⟨⟨c, d0, d1, d2, d3, d4, d5, ?_⟩, ⟨r', ?_⟩, ?_, hr.pos, hr.most, hr.fit⟩
    · rw [HMap.upd_ne _ _ (by omega), HMap.upd_eq]
    · rw [HMap.upd_eq]
    · rw [HMap.upd_ne _ _ (by omega), HMap.upd_ne _ _ (by omega), hl]; exact k2
  · exact (h.r7.upd _ (by omega)).upd _ (by omega)
  · exact (h.r8.upd _ (by omega)).upd _ (by omega)
  · intro t e he
    exact ((h.ent t e he).upd _ (by omega)).upd _ (by omega)

theorem flat_get (es : List Ent) (q i : Nat) (hi : i < 8) : (es.flatMap Ent.vals)[q * 8 + i]? = (es[q]?).bind (fun e => e.vals[i]?) := by
  induction es generalizing q with
  | nil => simp
  | cons e es ih =>
    rw [List.flatMap_cons]
    cases q with
    | zero =>
      rw [List.getElem?_append_left (by rw [Ent.len]; omega)]
      simp
    | succ q =>
      rw [List.getElem?_append_right (by rw [Ent.len]; omega), Ent.len, show (q + 1) * 8 + i - 8 = q * 8 + i by omega, ih q]
      simp
theorem flat_len (es : List Ent) : (es.flatMap Ent.vals).length = es.length * 8 := by
  induction es with
  | nil => rfl
  | cons e es ih => rw [List.flatMap_cons, List.length_append, Ent.len, ih, List.length_cons]; omega
def setFrom (cs : List Value) (k : Nat) : List Value → List Value
  | [] => cs
  | v :: vs => setFrom (cs.set k v) (k + 1) vs
theorem setFrom_len (vs : List Value) : ∀ (cs : List Value) (k : Nat), (setFrom cs k vs).length = cs.length := by
  induction vs with
  | nil => intro cs k; rfl
  | cons v vs ih => intro cs k; show (setFrom (cs.set k v) (k + 1) vs).length = _; rw [ih, List.length_set]
theorem setFrom_get (vs : List Value) : ∀ (cs : List Value) (k j : Nat), k + vs.length ≤ cs.length → (setFrom cs k vs)[j]? = if k ≤ j ∧ j < k + vs.length then vs[j - k]? else cs[j]? := by
  induction vs with
  | nil => intro cs k j _; simp only [setFrom, List.length_nil]; rw [if_neg (by omega)]
  | cons v vs ih =>
    intro cs k j hl
    simp only [List.length_cons] at hl ⊢
    show (setFrom (cs.set k v) (k + 1) vs)[j]? = _
    rw [ih (cs.set k v) (k + 1) j (by rw [List.length_set]; omega)]
    by_cases h1 : k + 1 ≤ j ∧ j < k + 1 + vs.length
    · rw [if_pos h1, if_pos (by omega), show j - k = (j - (k + 1)) + 1 by omega]
      rfl
    · rw [if_neg h1, List.getElem?_set]
      by_cases h2 : k = j
      · subst h2
        rw [if_pos rfl, if_pos (by omega), if_pos (by omega)]
        simp
      · rw [if_neg h2, if_neg (by omega)]
theorem set_flat {es : List Ent} {cur : List Value} (h : cur.take (es.length * 8) = es.flatMap Ent.vals) (hl : es.length * 8 ≤ cur.length) {t : Nat} (ht : t < es.length) (e' : Ent) :
    (setFrom cur (t * 8) e'.vals).take (es.length * 8) = (es.set t e').flatMap Ent.vals := by
  apply List.ext_getElem?
  intro j
  rw [List.getElem?_take]
  have hj : j = j / 8 * 8 + j % 8 := by omega
  have hj8 : j % 8 < 8 := Nat.mod_lt _ (by decide)
  have hr := flat_get (es.set t e') (j / 8) (j % 8) hj8
  rw [← hj] at hr
  rw [hr, setFrom_get _ _ _ _ (by rw [Ent.len]; omega), Ent.len]
  have h0 := flat_get es (j / 8) (j % 8) hj8
  rw [← hj, ← h, List.getElem?_take] at h0
  by_cases hjn : j < es.length * 8
  · rw [if_pos hjn]
    rw [if_pos hjn] at h0
    by_cases hq : j / 8 = t
    · subst hq
      rw [if_pos (by omega), List.getElem?_set_self ht, show j - j / 8 * 8 = j % 8 by omega]
      rfl
    · rw [if_neg (by omega), List.getElem?_set_ne (fun e => hq e.symm)]
      exact h0
  · rw [if_neg hjn, List.getElem?_eq_none (by rw [List.length_set]; omega)]
    rfl
theorem St.pos8 (h : St W w χ m c0 M b bw bb bx gw gb v7 v8 ws xs ps es) (hn : 0 < es.length) :
    ∃ g cap cur, v8 = .slice (some ⟨g, 0, none⟩) es.length cap ∧ m 8 = some (g, 44, cur) ∧ es.length ≤ cap ∧ cap ≤ maxLen ∧ cur.length = cap * 8 ∧ cur.take (es.length * 8) = es.flatMap Ent.vals := by
  rcases h.r8 with ⟨_, h0, _⟩ | ⟨g, cap, cur, h1, h2, h3, h4, h5, h6, _⟩
  · omega
  · exact ⟨g, cap, cur, h1, h2, h3, h4, h5, h6⟩
theorem St.pos7 (h : St W w χ m c0 M b bw bb bx gw gb v7 v8 ws xs ps es) (hn : 0 < ps.length) :
    ∃ g cap cur, v7 = .slice (some ⟨g, 0, none⟩) ps.length cap ∧ m 7 = some (g, 45, cur) ∧ ps.length ≤ cap ∧ cap ≤ maxLen ∧ cur.length = cap * 1 ∧ cur.take (ps.length * 1) = ptrs ps := by
  rcases h.r7 with ⟨_, h0, _⟩ | ⟨g, cap, cur, h1, h2, h3, h4, h5, h6, _⟩
  · omega
  · exact ⟨g, cap, cur, h1, h2, h3, h4, h5, h6⟩
theorem cell8 (hp : Hp W w χ m) {g : Nat} {cur : List Value} (hg : m 8 = some (g, 44, cur)) (hc : cur.take (es.length * 8) = es.flatMap Ent.vals) {t : Nat} {e : Ent} (he : es[t]? = some e) (i : Nat) (hi : i < 8) : w.cell? ⟨g, t * 8 + i, none⟩ = e.vals[i]? := by
  have ht := (List.getElem?_eq_some_iff.1 he).1
  rw [(hp.blk hg).cell]
  have h0 := flat_get es t i hi
  rw [← hc, List.getElem?_take, if_pos (by omega), he] at h0
  exact h0
theorem cell7 (hp : Hp W w χ m) {g : Nat} {cur : List Value} (hg : m 7 = some (g, 45, cur)) (hc : cur.take (ps.length * 1) = ptrs ps) {t p : Nat} (he : ps[t]? = some p) : w.cell? ⟨g, t, none⟩ = some (.pointer (some ⟨p, 0, none⟩)) := by
  have ht := (List.getElem?_eq_some_iff.1 he).1
  rw [(hp.blk hg).cell]
  have h0 : (cur.take (ps.length * 1))[t]? = (ptrs ps)[t]? := by rw [hc]
  rw [List.getElem?_take, if_pos (by omega)] at h0
  rw [h0]
  unfold ptrs
  rw [List.getElem?_map, he]; rfl
theorem St.own (h : St W w χ m c0 M b bw bb bx gw gb v7 v8 ws xs ps es) {g cap : Nat} {cur : List Value} (hv : v8 = .slice (some ⟨g, 0, none⟩) es.length cap) (hg : m 8 = some (g, 44, cur)) (h1 : es.length ≤ cap) (h2 : cap ≤ maxLen) (h3 : cur.length = cap * 8) (h4 : cur.take (es.length * 8) = es.flatMap Ent.vals)
    {t : Nat} {e : Ent} (he : es[t]? = some e) (r' : ROp) (hc : Chg (fun j => j = g) w w') (hb : Blk w' g 44 (setFrom cur (t * 8) (Ent.vals { e with r := r' }))) : ∃ m', St W w' χ m' c0 M b bw bb bx gw gb v7 v8 ws xs ps (es.set t { e with r := r' }) := by
  have ht := (List.getElem?_eq_some_iff.1 he).1
  refine ⟨_, h.hp.put hg hc hb, ?_, ?_, ?_, ?_, ?_, h.lw, h.lx, ?_⟩
  · exact (h.box.upd _ (by omega))
  · exact h.mem.upd _ (by omega) (by omega) (by omega)
  · exact h.ref.upd _ (by omega) (by omega) (by omega)
  · exact h.r7.upd _ (by omega)
  · refine .inr ⟨g, cap, _, by rw [List.length_set]; exact hv, HMap.upd_eq _ _ _, by rw [List.length_set]; exact h1, h2, by rw [setFrom_len]; exact h3, ?_, by rw [flat_len]⟩
    rw [List.length_set]
    exact set_flat h4 (by have := Nat.mul_le_mul_right 8 h1; omega) ht _
  · intro u f hf
    rw [List.getElem?_set] at hf
    by_cases htu : t = u
    · subst htu
      rw [if_pos rfl, if_pos ht] at hf
      · injection hf with hf
        subst hf
        obtain ⟨k0, k3⟩ := h.ent t e he
        exact ⟨by rw [HMap.upd_ne _ _ (by omega)]; exact k0, k3⟩
    · rw [if_neg htu] at hf
      exact (h.ent u f hf).upd _ (by omega)
theorem St.app7 (h : St W w χ m c0 M b bw bb bx gw gb v7 v8 ws xs ps es) {v' : Value} {p : Nat} (hown : w'.ownsRow W.heap.size 45 1 v' (ps.length + 1) (ptrs ps ++ [.pointer (some ⟨p, 0, none⟩)])) (hg : w.grownBy w' v7.ownBlock) (hs : v'.ownBlock = v7.ownBlock ∨ v'.ownBlock = some w.heap.size) :
    ∃ χ' m', St W w' χ' m' c0 M b bw bb bx gw gb v' v8 ws xs (ps ++ [p]) es ∧ (∀ j, j < w.heap.size → χ' j = χ j) ∧ ∃ g cap, v' = .slice (some ⟨g, 0, none⟩) (ps.length + 1) cap := by
  obtain ⟨χ', g, cur, h1, h2, h3, cap, h4⟩ := h.hp.app (by omega) h.r7 (by omega) hown hg hs
  refine ⟨χ', _, ⟨h1, ?_, ?_, ?_, ?_, ?_, h.lw, h.lx, ?_⟩, h2, g, cap, h4⟩
  · exact (h.box.upd _ (by omega))
  · exact h.mem.upd _ (by omega) (by omega) (by omega)
  · exact h.ref.upd _ (by omega) (by omega) (by omega)
  · rw [List.length_append]
    unfold ptrs at h3 ⊢
    rw [List.map_append]
    exact h3
  · exact h.r8.upd _ (by omega)
  · intro t e he
    exact (h.ent t e he).upd _ (by omega)
/-- one more of the reference's operations; and the block of the new one is marked. -/
theorem St.app8 (h : St W w χ m c0 M b bw bb bx gw gb v7 v8 ws xs ps es) {v' : Value} {e : Ent} (hown : w'.ownsRow W.heap.size 44 8 v' (es.length + 1) (es.flatMap Ent.vals ++ e.vals)) (hg : w.grownBy w' v8.ownBlock) (hs : v'.ownBlock = v8.ownBlock ∨ v'.ownBlock = some w.heap.size)
    (ho : Blk w e.bo 88 (e.o.cells 1 M 0)) (f0 : χ e.bo = 0) (q0 : W.heap.size ≤ e.bo) (hok : GIn M e.o) (hx : GX M e.o) :
    ∃ χ' m', St W w' χ' m' c0 M b bw bb bx gw gb v7 v' ws xs ps (es ++ [e]) ∧ ∃ g cap, v' = .slice (some ⟨g, 0, none⟩) (es.length + 1) cap := by
  obtain ⟨χ1, g, cur, h1, h2, h3, cap, h4⟩ := h.hp.app (by omega) h.r8 (by omega) hown hg hs
  have hne : ∀ k, χ k = 0 → some k ≠ v8.ownBlock := by
    intro k hk hek
    rcases h.r8 with ⟨hv, _⟩ | ⟨g', cap', cur', hv, hm', _⟩
    · rw [hv] at hek; simp [Value.ownBlock] at hek
    · rw [hv] at hek
      have : k = g' := by simpa [Value.ownBlock] using hek
      subst this
      obtain ⟨_, hx, _⟩ := h.hp.has _ _ _ _ hm'
      omega
  have l0 := ho.lt
  have b0 : Blk w' e.bo _ _ := (hg.block e.bo l0 (hne _ f0)).trans ho
  obtain ⟨χ2, p1, p2⟩ := h1.mark (t := 20 + es.length) (by omega) ((h2 _ l0).trans f0) q0 b0
  refine ⟨χ2, _, ⟨p1, ?_, ?_, ?_, ?_, ?_, h.lw, h.lx, ?_⟩, g, cap, h4⟩
  · exact (h.box.upd _ (by omega)).upd _ (by omega)
  · exact (h.mem.upd _ (by omega) (by omega) (by omega)).upd _ (by omega) (by omega) (by omega)
  · exact (h.ref.upd _ (by omega) (by omega) (by omega)).upd _ (by omega) (by omega) (by omega)
  · exact (h.r7.upd _ (by omega)).upd _ (by omega)
  · rw [List.length_append, List.flatMap_append, List.flatMap_cons, List.flatMap_nil, List.append_nil]
    exact h3.upd _ (by omega)
  · intro t f hf
    rcases Nat.lt_or_ge t es.length with ht | ht
    · rw [List.getElem?_append_left ht] at hf
      exact ((h.ent t f hf).upd _ (by omega)).upd _ (by omega)
    · rw [List.getElem?_append_right ht] at hf
      have hte : t = es.length := by
        rcases Nat.eq_zero_or_pos (t - es.length) with h0 | h0
        · omega
        · rw [List.getElem?_eq_none (by simp; omega)] at hf; cases hf
      subst hte
      simp at hf
      subst hf
      exact ⟨by rw [HMap.upd_eq], hok, hx⟩
theorem Hp.mem_new (h : Hp W w χ m) {p b bw bb : Nat} {ws : List Nat} (hb : Below w.heap.size w w') (hm : MemAt w' b bw bb ws) (h1 : w.heap.size ≤ b) (h2 : w.heap.size ≤ bw) (h3 : w.heap.size ≤ bb) (hp : p ≠ 0) :
    ∃ χ' x y z, Hp W w' χ' (((m.upd p x).upd (p + 1) y).upd (p + 2) z) ∧ MemIn (((m.upd p x).upd (p + 1) y).upd (p + 2) z) p b bw bb ws := by
  obtain ⟨d0, d1, d2, d3, d4, d5, k0⟩ := hm.top
  have hs := h.below.size
  have hk := h.keep hb
  have f0 := h.fresh h1
  have f1 := h.fresh h2
  have f2 := h.fresh h3
  obtain ⟨χ1, p1, p2⟩ := hk.mark (t := p) hp f0 (by omega) k0
  obtain ⟨χ2, p3, p4⟩ := p1.mark (t := p + 1) (by omega) ((p2 _ hm.ne1.symm).trans f1) (by omega) hm.words
  obtain ⟨χ3, p5, p6⟩ := p3.mark (t := p + 2) (by omega) ((p4 _ hm.ne3.symm).trans ((p2 _ hm.ne2.symm).trans f2)) (by omega) hm.marks
  refine ⟨χ3, _, _, _, p5, ⟨d0, d1, d2, d3, d4, d5, ?_⟩, ?_, HMap.upd_eq _ _ _, hm.pos, hm.most, hm.fit⟩
  · rw [HMap.upd_ne _ _ (by omega), HMap.upd_ne _ _ (by omega), HMap.upd_eq]
  · rw [HMap.upd_ne _ _ (by omega), HMap.upd_eq]
theorem Hp.ref_new (h : Hp W w χ m) {gw gb : Nat} {xs : List Nat} {c : Nat} {d0 d1 d2 d3 d4 d5 : Int} (hb : Below w.heap.size w w') (hr : RefAt w' gw gb xs) (h1 : w.heap.size ≤ gw) (h2 : w.heap.size ≤ gb) :
    ∃ χ' x y z, Hp W (w'.alloc (.cells #[.slice (some ⟨gw, 0, none⟩) xs.length c, .slice (some ⟨gb, 0, none⟩) xs.length xs.length, .int .i64 d0, .int .i64 d1, .int .i64 d2, .int .i64 d3, .int .i64 d4, .int .i64 d5, .int .i64 (-1), .bool false] 34)) χ' (((m.upd 6 x).upd 9 y).upd 5 z) ∧
      RefIn (((m.upd 6 x).upd 9 y).upd 5 z) w'.heap.size gw gb xs := by
  obtain ⟨r, k0⟩ := hr.words
  have hs := h.below.size
  have hk := h.keep hb
  obtain ⟨χ1, p1, p2⟩ := hk.mark (t := 6) (by omega) (h.fresh h1) (by omega) k0
  obtain ⟨χ2, p3, p4⟩ := p1.mark (t := 9) (by omega) ((p2 _ hr.ne.symm).trans (h.fresh h2)) (by omega) hr.marks
  obtain ⟨χ3, p5, p6⟩ := p3.add (t := 5) (bnew (Below.refl _ _) _) (by omega) (Nat.le_refl _) (blk_new w' 34 #[.slice (some ⟨gw, 0, none⟩) xs.length c, .slice (some ⟨gb, 0, none⟩) xs.length xs.length, .int .i64 d0, .int .i64 d1, .int .i64 d2, .int .i64 d3, .int .i64 d4, .int .i64 d5, .int .i64 (-1), .bool false] _ rfl)
  refine ⟨χ3, _, _, _, p5, ⟨c, d0, d1, d2, d3, d4, d5, HMap.upd_eq _ _ _⟩, ⟨r, ?_⟩, ?_, hr.pos, hr.most, hr.fit⟩
  · rw [HMap.upd_ne _ _ (by omega), HMap.upd_ne _ _ (by omega), HMap.upd_eq]
  · rw [HMap.upd_ne _ _ (by omega), HMap.upd_eq]
theorem Hp.refset (h : Hp W w χ m) {bx gw gb : Nat} {xs : List Nat} (hr : RefIn m bx gw gb xs) (k v : Nat) (hk : k < xs.length) (hv : v < 18446744073709551616) : ∃ x, Hp W (w.setCell ⟨gw, k, none⟩ (.int .u64 (v : Nat))) χ (m.upd 6 x) ∧ RefIn (m.upd 6 x) bx gw gb (xs.set k v) := by
  obtain ⟨⟨c, d0, d1, d2, d3, d4, d5, k0⟩, ⟨r, k1⟩, k2, k3, k4, k5⟩ := hr
  have hkx : k < (wordVals xs).length := by simp [wordVals]; omega
  have h1 := h.set k1 k (.int .u64 (v : Nat))
  rw [List.set_append_left _ _ hkx] at h1
  refine ⟨_, h1, ⟨c, d0, d1, d2, d3, d4, d5, ?_⟩, ⟨r, ?_⟩, ?_, ?_⟩
  · rw [HMap.upd_ne _ _ (by omega), List.length_set]; exact k0
  · rw [HMap.upd_eq]; unfold wordVals; rw [List.map_set]
  · rw [HMap.upd_ne _ _ (by omega), List.length_set]; exact k2
  · rw [List.length_set]
    refine ⟨k3, k4, fun x hx => ?_⟩
    rcases List.mem_or_eq_of_mem_set hx with h' | h'
    · exact k5 x h'
    · omega
/-- all that stands ahead of the first loop. -/
theorem st_start {W w1 w2 : World} {M b bw bb gw gb : Nat} (hm : MemAt w1 b bw bb [0, 0, 0, 0, 0, 0]) (h1 : W.heap.size + 1 ≤ b) (h2 : W.heap.size + 1 ≤ bw) (h3 : W.heap.size + 1 ≤ bb)
    (hb1 : Below (W.heap.size + 1) (W.alloc (.cells #[.int .i64 1, .int .i64 (M : Int), .int .i64 0] 25)) w1) (hr : RefAt w2 gw gb [0, 0, 0, 0, 0, 0]) (h4 : w1.heap.size ≤ gw) (h5 : w1.heap.size ≤ gb) (hb2 : Below w1.heap.size w1 w2) :
    ∃ χ m, St W (w2.alloc (.cells #[.slice (some ⟨gw, 0, none⟩) 6 6, .slice (some ⟨gb, 0, none⟩) 6 6, .int .i64 0, .int .i64 0, .int .i64 0, .int .i64 0, .int .i64 0, .int .i64 0, .int .i64 (-1), .bool false] 34)) χ m W.heap.size M b bw bb w2.heap.size gw gb (.slice none 0 0) (.slice none 0 0) [0, 0, 0, 0, 0, 0] [0, 0, 0, 0, 0, 0] [] [] := by
  obtain ⟨χ1, p1, _⟩ := (hp_start W).add (t := 1) (bnew (Below.refl _ _) _) (by omega) (Nat.le_refl _) (blk_new W 25 #[.int .i64 1, .int .i64 (M : Int), .int .i64 0] _ rfl)
  obtain ⟨χ2, x, y, z, p2, p3⟩ := p1.mem_new (p := 2) (by simpa using hb1) hm (by simpa using h1) (by simpa using h2) (by simpa using h3) (by omega)
  obtain ⟨χ3, x', y', z', p4, p5⟩ := p2.ref_new (c := 6) (d0 := 0) (d1 := 0) (d2 := 0) (d3 := 0) (d4 := 0) (d5 := 0) hb2 hr h4 h5
  refine ⟨χ3, _, p4, ?_, ?_, p5, .inl ⟨rfl, rfl, rfl⟩, .inl ⟨rfl, rfl, rfl⟩, rfl, rfl, fun t e he => by simp at he⟩
  · unfold BoxIn
    rw [HMap.upd_ne _ _ (by omega), HMap.upd_ne _ _ (by omega), HMap.upd_ne _ _ (by omega), HMap.upd_ne _ _ (by omega), HMap.upd_ne _ _ (by omega), HMap.upd_ne _ _ (by omega), HMap.upd_eq]
  · exact ((p3.upd _ (by omega) (by omega) (by omega)).upd _ (by omega) (by omega) (by omega)).upd _ (by omega) (by omega) (by omega)
end Go.Proofs.Ytjmooohhndjmiaa
