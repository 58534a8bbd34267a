/- GateHolds: what holds at the loop's head. -/
import Derived.Test.YtjmooohhndjmiaaHoS
namespace Go.Proofs.Ytjmooohhndjmiaa
open Go.RowKit Go.Deep
set_option linter.unusedVariables false
set_option linter.unusedSimpArgs false
set_option maxRecDepth 100000

/-- what holds of both threads. -/
def HoTh (c B pj : Nat) (fs ats : List Nat) (ps : List (Option (Nat × GOp))) : Prop :=
  ∀ t, t < 2 → ∃ o, (ats.getD t 0 = 1 → ∃ bo, ps[t]? = some (some (bo, o))) ∧ HTok c B pj (ats.getD t 0) (fs.getD t 0) o
theorem HoTh.mono {c B pj : Nat} {fs ats : List Nat} {ps : List (Option (Nat × GOp))} (h : HoTh c B pj fs ats ps) {c' B' pj' : Nat} (h1 : c ≤ c') (h2 : B ≤ B') (h3 : pj ≤ pj') : HoTh c' B' pj' fs ats ps := fun t ht => by
  obtain ⟨o, g1, g2⟩ := h t ht
  exact ⟨o, g1, g2.mono h1 h2 h3⟩
theorem HoTh.upd {c B pj : Nat} {fs ats : List Nat} {ps : List (Option (Nat × GOp))} (h : HoTh c B pj fs ats ps) {t : Nat} (ht : t < 2) (l : fs.length = 2 ∧ ats.length = 2 ∧ ps.length = 2) (f a : Nat) (p : Option (Nat × GOp)) {o : GOp} (h1 : a = 1 → ∃ bo, p = some (bo, o)) (h2 : HTok c B pj a f o) :
    HoTh c B pj (fs.set t f) (ats.set t a) (ps.set t p) := fun u hu => by
  obtain ⟨l1, l2, l3⟩ := l
  by_cases hut : u = t
  · subst hut
    have e1 : (fs.set u f).getD u 0 = f := by simp [List.getD, l1, ht]
    have e2 : (ats.set u a).getD u 0 = a := by simp [List.getD, l2, ht]
    have e3 : (ps.set u p)[u]? = some p := by simp [l3, ht]
    rw [e1, e2, e3]
    refine ⟨o, fun e => ?_, h2⟩
    obtain ⟨bo, rfl⟩ := h1 e
    exact ⟨bo, rfl⟩
  · have e1 : (fs.set t f).getD u 0 = fs.getD u 0 := by simp only [List.getD, List.getElem?_set, Ne.symm hut, if_false]
    have e2 : (ats.set t a).getD u 0 = ats.getD u 0 := by simp only [List.getD, List.getElem?_set, Ne.symm hut, if_false]
    have e3 : (ps.set t p)[u]? = ps[u]? := by simp only [List.getElem?_set, Ne.symm hut, if_false]
    rw [e1, e2, e3]
    exact h u hu
theorem set_getD {l : List Nat} {t : Nat} : l.set t (l.getD t 0) = l := by
  apply List.ext_getElem
  · simp
  · intro i h1 h2
    rw [List.getElem_set]
    split
    · next e => subst e; simp [List.getD, h2]
    · rfl
theorem at_cell {l : List Nat} {t : Nat} (hl : l.length = 2) (ht : t < 2) : (atVals l)[t]? = some (.int .i64 (l.getD t 0 : Nat)) := by
  have : t < l.length := by omega
  simp [atVals, List.getD, this]
theorem from_cell {l : List Nat} {t : Nat} (hl : l.length = 2) (ht : t < 2) : (wordVals l)[t]? = some (.int .u64 (l.getD t 0 : Nat)) := by
  have : t < l.length := by omega
  simp [wordVals, List.getD, this]
theorem ptr_cell {ps : List (Option (Nat × GOp))} {t : Nat} {p : Option (Nat × GOp)} (hp : ps[t]? = some p) : (ps.map pVal)[t]? = some (pVal p) := by
  rw [List.getElem?_map, hp]; rfl
/-- all of it: k rounds are done. -/
structure HoIn (W w : World) (b bw bb bj b9 b10 b11 k start : Nat) (jd : Bool) (c m x : Nat) (j : GOp) (fs ats : List Nat) (ps : List (Option (Nat × GOp))) : Prop where
  st : HoW W w b bw bb bj b9 b10 b11 c m x j fs ats ps
  gi : GIn 2 j
  hj : HJ c m x j
  jn : hJoined jd start j
  ck : c ≤ k
  sk : start ≤ k
  th : HoTh c (hB c j) j.pc fs ats ps
def HoAll (W w : World) (b bw bb bj b9 b10 b11 k start : Nat) (jd : Bool) : Prop := ∃ c m x j fs ats ps, HoIn W w b bw bb bj b9 b10 b11 k start jd c m x j fs ats ps
theorem HoIn.all {W w : World} {b bw bb bj b9 b10 b11 k start : Nat} {jd : Bool} {c m x : Nat} {j : GOp} {fs ats : List Nat} {ps : List (Option (Nat × GOp))} (h : HoIn W w b bw bb bj b9 b10 b11 k start jd c m x j fs ats ps) : HoAll W w b bw bb bj b9 b10 b11 (k + 1) start jd :=
  ⟨c, m, x, j, fs, ats, ps, h.st, h.gi, h.hj, h.jn, by have := h.ck; omega, by have := h.sk; omega, h.th⟩
theorem HoAll.keep {W w w' : World} {b bw bb bj b9 b10 b11 k start : Nat} {jd : Bool} (h : HoAll W w b bw bb bj b9 b10 b11 k start jd) (hb : Below w.heap.size w w') : HoAll W w' b bw bb bj b9 b10 b11 k start jd := by
  obtain ⟨c, m, x, j, fs, ats, ps, h⟩ := h
  exact ⟨c, m, x, j, fs, ats, ps, h.st.keep hb, h.gi, h.hj, h.jn, h.ck, h.sk, h.th⟩
/-- the beginning. -/
theorem ho_start {W w0 w1 w : World} {b bw bb bo : Nat} (hs : GSys W w1 W.heap.size 1 2 0 b bw bb [0, 0, 0, 0]) (hk : Blk w1 bo 88 (GOp.cells 1 2 0 ⟨0, 1, 0, 0, 0, 0⟩)) (ha : GApart W W.heap.size b bw bb bo)
    (hw : w = ((w1.alloc (.cells #[.pointer none, .pointer none] 64)).alloc (.cells #[.int .u64 0, .int .u64 0] 65)).alloc (.cells #[.int .i64 0, .int .i64 0] 66)) :
    HoAll W w b bw bb bo w1.heap.size (w1.heap.size + 1) (w1.heap.size + 1 + 1) 0 0 false := by
  obtain ⟨m1, m2, m3⟩ := hs.mem.lt
  obtain ⟨⟨c0, c1, c2, c3, c4, c5, q0⟩, q1, q2, q3, q4, q5, q6, q7, q8⟩ := hs.mem
  have b1 := blk_new w1 64 #[Value.pointer none, Value.pointer none] _ rfl
  have b2 := blk_new (w1.alloc (Obj.cells #[Value.pointer none, Value.pointer none] 64)) 65 #[Value.int .u64 0, Value.int .u64 0] _ rfl
  have b3 := blk_new ((w1.alloc (Obj.cells #[Value.pointer none, Value.pointer none] 64)).alloc (Obj.cells #[Value.int .u64 0, Value.int .u64 0] 65)) 66 #[Value.int .i64 0, Value.int .i64 0] _ rfl
  simp only [World.size_alloc] at b2 b3
  have hbox := hs.box
  have l0 := hs.box.lt
  have lo := hk.lt
  have hsz := hs.below.size
  have g0 := hs.g0
  have g1 := hs.g1
  have g2 := hs.g2
  have g3 := hs.g3
  have n1 := hs.n1
  have n2 := hs.n2
  have n3 := hs.n3
  have a0 := ha.ge
  have a1 := ha.n0
  have a2 := ha.n1
  have a3 := ha.n2
  have a4 := ha.n3
  let χ : Nat → Nat := fun j => if j = W.heap.size then 1 else if j = b then 2 else if j = bw then 3 else if j = bb then 4 else if j = bo then 5 else if j = w1.heap.size then 6 else if j = w1.heap.size + 1 then 7 else if j = w1.heap.size + 1 + 1 then 8 else 0
  let mp : HMap := fun t => match t with
    | 1 => some (W.heap.size, 25, [.int .i64 1, .int .i64 2, .int .i64 0])
    | 2 => some (b, 73, [.slice (some ⟨bw, 0, none⟩) 4 4, .slice (some ⟨bb, 0, none⟩) 4 4, .int .i64 c0, .int .i64 c1, .int .i64 c2, .int .i64 c3, .int .i64 c4, .int .i64 c5, .int .i64 (-1), .bool false])
    | 3 => some (bw, 40, wordVals [0, 0, 0, 0])
    | 4 => some (bb, 4, List.replicate 4 (.bool false))
    | 5 => some (bo, 88, GOp.cells 1 2 0 ⟨0, 1, 0, 0, 0, 0⟩)
    | 6 => some (w1.heap.size, 64, [.pointer none, .pointer none])
    | 7 => some (w1.heap.size + 1, 65, [.int .u64 0, .int .u64 0])
    | 8 => some (w1.heap.size + 1 + 1, 66, [.int .i64 0, .int .i64 0])
    | _ => none
  have k1 : χ W.heap.size = 1 := if_pos rfl
  have k2 : χ b = 2 := by simp only [χ]; rw [if_neg (by omega), if_pos trivial]
  have k3 : χ bw = 3 := by simp only [χ]; rw [if_neg (by omega), if_neg (by omega), if_pos trivial]
  have k4 : χ bb = 4 := by simp only [χ]; rw [if_neg (by omega), if_neg (by omega), if_neg (by omega), if_pos trivial]
  have k5 : χ bo = 5 := by simp only [χ]; rw [if_neg (by omega), if_neg (by omega), if_neg (by omega), if_neg (by omega), if_pos trivial]
  have k6 : χ w1.heap.size = 6 := by simp only [χ]; rw [if_neg (by omega), if_neg (by omega), if_neg (by omega), if_neg (by omega), if_neg (by omega), if_pos trivial]
  have k7 : χ (w1.heap.size + 1) = 7 := by simp only [χ]; rw [if_neg (by omega), if_neg (by omega), if_neg (by omega), if_neg (by omega), if_neg (by omega), if_neg (by omega), if_pos trivial]
  have k8 : χ (w1.heap.size + 1 + 1) = 8 := by simp only [χ]; rw [if_neg (by omega), if_neg (by omega), if_neg (by omega), if_neg (by omega), if_neg (by omega), if_neg (by omega), if_neg (by omega), if_pos trivial]
  have hbel : Below w1.heap.size w1 w := by rw [hw]; exact bnew (bnew (bnew (Below.refl _ _) _) _) _
  have kk : ∀ {g : Nat} {ty : TypeId} {cs : List Value}, Blk w1 g ty cs → Blk w g ty cs := fun h => h.chg (chg_of_below (fun _ => False) hbel) (fun h => h)
  have hwsz : w.heap.size = w1.heap.size + 1 + 1 + 1 := by rw [hw]; simp
  refine ⟨0, 0, 0, ⟨0, 1, 0, 0, 0, 0⟩, [0, 0], [0, 0], [none, none], ⟨χ, mp, ⟨bseq hs.below hbel, fun j hj => ?_, fun t g ty cs e => ?_⟩, rfl, ⟨⟨c0, c1, c2, c3, c4, c5, rfl⟩, rfl, rfl, by decide, by decide, q8⟩, rfl, rfl, rfl, rfl, rfl, rfl, rfl, fun th bo o ht => ?_⟩, gin_new 2 0 1 0 (by decide) (by decide) (by decide), ?_, fun h => by simp at h, Nat.le_refl _, Nat.le_refl _, fun t ht => ?_⟩
  · simp only [χ] at hj
    by_cases e1 : j = W.heap.size
    · omega
    rw [if_neg e1] at hj
    by_cases e2 : j = b
    · omega
    rw [if_neg e2] at hj
    by_cases e3 : j = bw
    · omega
    rw [if_neg e3] at hj
    by_cases e4 : j = bb
    · omega
    rw [if_neg e4] at hj
    by_cases e5 : j = bo
    · omega
    rw [if_neg e5] at hj
    by_cases e6 : j = w1.heap.size
    · omega
    rw [if_neg e6] at hj
    by_cases e7 : j = w1.heap.size + 1
    · omega
    rw [if_neg e7] at hj
    by_cases e8 : j = w1.heap.size + 1 + 1
    · omega
    rw [if_neg e8] at hj
    exact absurd rfl hj
  · match t, e with
    | 1, e => cases e; exact ⟨by decide, k1, kk hbox⟩
    | 2, e => cases e; exact ⟨by decide, k2, kk q0⟩
    | 3, e => cases e; exact ⟨by decide, k3, kk q1⟩
    | 4, e => cases e; exact ⟨by decide, k4, kk q2⟩
    | 5, e => cases e; exact ⟨by decide, k5, kk hk⟩
    | 6, e => cases e; exact ⟨by decide, k6, by rw [hw]; exact (b1.alloc _).alloc _⟩
    | 7, e => cases e; exact ⟨by decide, k7, by rw [hw]; exact b2.alloc _⟩
    | 8, e => cases e; exact ⟨by decide, k8, by rw [hw]; exact b3⟩
  · match th with
    | 0 | 1 => simp at ht
    | th + 2 => simp at ht
  · exact ⟨rfl, rfl, Nat.zero_le _, fun _ => rfl, fun h => by simp at h, fun h => by simp at h, fun h => by simp at h, fun h => by simp at h, fun h => by simp at h, rfl⟩
  · match t, ht with
    | 0, _ => exact ⟨⟨0, 0, 0, 0, 0, 0⟩, fun h => by simp at h, .inl rfl⟩
    | 1, _ => exact ⟨⟨0, 0, 0, 0, 0, 0⟩, fun h => by simp at h, .inl rfl⟩
end Go.Proofs.Ytjmooohhndjmiaa
