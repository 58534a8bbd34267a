/- GateHolds: the blocks, and what each event leaves of them. -/
import Derived.Test.YtjmooohhndjmiaaHoP
import Derived.Test.YtjmooohhndjmiaaGatV
import Derived.Test.YtjmooohhndjmiaaHeap
namespace Go.Proofs.Ytjmooohhndjmiaa
open Go.RowKit Go.Deep
set_option linter.unusedVariables false
set_option linter.unusedSimpArgs false
set_option maxRecDepth 100000

def pVal : Option (Nat × GOp) → Value
  | none => .pointer none
  | some (bo, _) => .pointer (some ⟨bo, 0, none⟩)
def atVals (l : List Nat) : List Value := l.map fun x => .int .i64 (x : Nat)
/-- the gate's variable, the memory, the operation that joins, and the threads' operations, numbers, places. -/
structure HoSt (W w : World) (χ : Nat → Nat) (mp : HMap) (b bw bb bj b9 b10 b11 c m x : Nat) (j : GOp) (fs ats : List Nat) (ps : List (Option (Nat × GOp))) : Prop where
  hp : Hp W w χ mp
  gv : mp 1 = some (W.heap.size, 25, [.int .i64 1, .int .i64 2, .int .i64 0])
  mem : MemIn mp 2 b bw bb [c, m, 0, x]
  jn : mp 5 = some (bj, 88, j.cells 1 2 0)
  ls : mp 6 = some (b9, 64, ps.map pVal)
  fr : mp 7 = some (b10, 65, wordVals fs)
  aa : mp 8 = some (b11, 66, atVals ats)
  lf : fs.length = 2
  la : ats.length = 2
  lp : ps.length = 2
  op : ∀ (th bo : Nat) (o : GOp), ps[th]? = some (some (bo, o)) → mp (9 + th) = some (bo, 88, o.cells 1 2 0)
def HoW (W w : World) (b bw bb bj b9 b10 b11 c m x : Nat) (j : GOp) (fs ats : List Nat) (ps : List (Option (Nat × GOp))) : Prop := ∃ χ mp, HoSt W w χ mp b bw bb bj b9 b10 b11 c m x j fs ats ps
variable {W w w' : World} {b bw bb bj b9 b10 b11 c m x : Nat} {j : GOp} {fs ats : List Nat} {ps : List (Option (Nat × GOp))}
theorem HoW.keep (h : HoW W w b bw bb bj b9 b10 b11 c m x j fs ats ps) (hb : Below w.heap.size w w') : HoW W w' b bw bb bj b9 b10 b11 c m x j fs ats ps := by
  obtain ⟨χ, mp, h⟩ := h
  exact ⟨χ, mp, h.hp.keep hb, h.gv, h.mem, h.jn, h.ls, h.fr, h.aa, h.lf, h.la, h.lp, h.op⟩
theorem HoW.below (h : HoW W w b bw bb bj b9 b10 b11 c m x j fs ats ps) : Below W.heap.size W w := by
  obtain ⟨χ, mp, h⟩ := h
  exact h.hp.below
theorem HoW.at (h : HoW W w b bw bb bj b9 b10 b11 c m x j fs ats ps) : MemAt w b bw bb [c, m, 0, x] := by
  obtain ⟨χ, mp, h⟩ := h
  exact h.mem.at h.hp
theorem HoW.box (h : HoW W w b bw bb bj b9 b10 b11 c m x j fs ats ps) : Blk w W.heap.size 25 [.int .i64 1, .int .i64 2, .int .i64 0] := by
  obtain ⟨χ, mp, h⟩ := h
  exact h.hp.blk h.gv
theorem HoW.ptrs (h : HoW W w b bw bb bj b9 b10 b11 c m x j fs ats ps) : Blk w b9 64 (ps.map pVal) := by
  obtain ⟨χ, mp, h⟩ := h
  exact h.hp.blk h.ls
theorem HoW.froms (h : HoW W w b bw bb bj b9 b10 b11 c m x j fs ats ps) : Blk w b10 65 (wordVals fs) := by
  obtain ⟨χ, mp, h⟩ := h
  exact h.hp.blk h.fr
theorem HoW.places (h : HoW W w b bw bb bj b9 b10 b11 c m x j fs ats ps) : Blk w b11 66 (atVals ats) := by
  obtain ⟨χ, mp, h⟩ := h
  exact h.hp.blk h.aa
theorem HoW.lens (h : HoW W w b bw bb bj b9 b10 b11 c m x j fs ats ps) : fs.length = 2 ∧ ats.length = 2 ∧ ps.length = 2 := by
  obtain ⟨χ, mp, h⟩ := h
  exact ⟨h.lf, h.la, h.lp⟩
/-- the thread that joins does a step. -/
theorem HoW.join_calls (h : HoW W w b bw bb bj b9 b10 b11 c m x j fs ats ps) (hi : GIn 2 j) (hj : HJ c m x j) :
    Calls Try.prog 12 #[.pointer (some ⟨bj, 0, none⟩), .pointer (some ⟨b, 0, none⟩)] w fun e w' => ∃ j' m' x', e = .returned (.bool (decide (j'.pc = 6))) ∧ HoW W w' b bw bb bj b9 b10 b11 c m' x' j' fs ats ps ∧ GIn 2 j' ∧ HJ c m' x' j' ∧ hB c j' = hB c j ∧ j.pc ≤ j'.pc ∧ (j.pc = 6 → j' = j) := by
  obtain ⟨χ, mp, h⟩ := h
  obtain ⟨j', m', x', e1, h2, h3, h4, h5⟩ := hj_step hj
  have hm := h.mem.at h.hp
  have hm0 := h.mem
  obtain ⟨⟨c0, c1, c2, c3, c4, c5, q0⟩, q1, q2, _⟩ := h.mem
  have hs := gop_step b bw bb bj 1 2 0 j [c, m, 0, x] w (h.hp.blk h.jn) hm ⟨by decide, by decide, by decide, by decide⟩ hi ⟨by simp, by simp⟩ ⟨h.hp.ne h.jn q0 (by decide), h.hp.ne h.jn q1 (by decide), h.hp.ne h.jn q2 (by decide)⟩
  have hi' := gin_step (A := 1) (C := 0) (ws := [c, m, 0, x]) hi (fun i => hm.getD_lt i)
  unfold GStep at hs
  rw [e1] at hs hi'
  refine hs.mono fun e w' ⟨g1, g2, g3, g4⟩ => ⟨j', m', x', g1, ?_, hi', h2, h3, h4, h5⟩
  obtain ⟨y1, y2, k1, k2⟩ := h.hp.mem1 hm0 h.jn (by decide) g4 g3 rfl g2
  refine ⟨χ, _, k1, ?_, k2, HMap.upd_eq _ _ _, ?_, ?_, ?_, h.lf, h.la, h.lp, fun th bo o ht => ?_⟩
  · rw [HMap.upd_ne _ _ (by decide), HMap.upd_ne _ _ (by decide), HMap.upd_ne _ _ (by decide)]; exact h.gv
  · rw [HMap.upd_ne _ _ (by decide), HMap.upd_ne _ _ (by decide), HMap.upd_ne _ _ (by decide)]; exact h.ls
  · rw [HMap.upd_ne _ _ (by decide), HMap.upd_ne _ _ (by decide), HMap.upd_ne _ _ (by decide)]; exact h.fr
  · rw [HMap.upd_ne _ _ (by decide), HMap.upd_ne _ _ (by decide), HMap.upd_ne _ _ (by decide)]; exact h.aa
  · rw [HMap.upd_ne _ _ (by omega), HMap.upd_ne _ _ (by omega), HMap.upd_ne _ _ (by omega)]; exact h.op th bo o ht
theorem HoW.result_calls (h : HoW W w b bw bb bj b9 b10 b11 c m x j fs ats ps) :
    Calls Try.prog 15 #[.pointer (some ⟨bj, 0, none⟩)] w fun e w' => e = .returned (.tuple #[.int .i64 (if j.pc = 6 then j.code else 0 : Nat), .int .u64 (if j.pc = 6 then j.v else 0 : Nat)]) ∧ HoW W w' b bw bb bj b9 b10 b11 c m x j fs ats ps := by
  have hh := h
  obtain ⟨χ, mp, h⟩ := h
  exact (gresult_calls bj 1 2 0 _ _ _ _ _ _ w (h.hp.blk h.jn)).mono fun e w' ⟨g1, g2⟩ => ⟨g1, hh.keep g2⟩
/-- a thread's Least does a step. -/
theorem HoW.least_calls (h : HoW W w b bw bb bj b9 b10 b11 c m x j fs ats ps) {th bo : Nat} {o o' : GOp} (ht : ps[th]? = some (some (bo, o))) (hi : GIn 2 o) (hs : gstep 1 2 0 o [c, m, 0, x] = (o', [c, m, 0, x])) :
    Calls Try.prog 12 #[.pointer (some ⟨bo, 0, none⟩), .pointer (some ⟨b, 0, none⟩)] w fun e w' => e = .returned (.bool (decide (o'.pc = 6))) ∧ HoW W w' b bw bb bj b9 b10 b11 c m x j fs ats (ps.set th (some (bo, o'))) := by
  obtain ⟨χ, mp, h⟩ := h
  have hm := h.mem.at h.hp
  have hm0 := h.mem
  obtain ⟨⟨c0, c1, c2, c3, c4, c5, q0⟩, q1, q2, _⟩ := h.mem
  have ho := h.op th bo o ht
  have hthl : th < ps.length := (List.getElem?_eq_some_iff.1 ht).1
  have hst := gop_step b bw bb bo 1 2 0 o [c, m, 0, x] w (h.hp.blk ho) hm ⟨by decide, by decide, by decide, by decide⟩ hi ⟨by simp, by simp⟩ ⟨h.hp.ne ho q0 (by omega), h.hp.ne ho q1 (by omega), h.hp.ne ho q2 (by omega)⟩
  unfold GStep at hst
  rw [hs] at hst
  refine hst.mono fun e w' ⟨g1, g2, g3, g4⟩ => ⟨g1, ?_⟩
  obtain ⟨y1, y2, k1, k2⟩ := h.hp.mem1 hm0 ho (by omega) g4 g3 rfl g2
  have hps : (ps.set th (some (bo, o'))).map pVal = ps.map pVal := by
    apply List.ext_getElem?
    intro i
    rw [List.getElem?_map, List.getElem?_map, List.getElem?_set]
    split
    · next hi => subst hi; rw [ht]; rfl
    · rfl
  refine ⟨χ, _, k1, ?_, k2, ?_, ?_, ?_, ?_, h.lf, h.la, by rw [List.length_set]; exact h.lp, fun u bu ou hu => ?_⟩
  · rw [HMap.upd_ne _ _ (by omega), HMap.upd_ne _ _ (by decide), HMap.upd_ne _ _ (by decide)]; exact h.gv
  · rw [HMap.upd_ne _ _ (by omega), HMap.upd_ne _ _ (by decide), HMap.upd_ne _ _ (by decide)]; exact h.jn
  · rw [HMap.upd_ne _ _ (by omega), HMap.upd_ne _ _ (by decide), HMap.upd_ne _ _ (by decide), hps]; exact h.ls
  · rw [HMap.upd_ne _ _ (by omega), HMap.upd_ne _ _ (by decide), HMap.upd_ne _ _ (by decide)]; exact h.fr
  · rw [HMap.upd_ne _ _ (by omega), HMap.upd_ne _ _ (by decide), HMap.upd_ne _ _ (by decide)]; exact h.aa
  · by_cases hut : u = th
    · subst hut
      rw [List.getElem?_set, if_pos rfl, if_pos hthl] at hu
      simp only [Option.some.injEq, Prod.mk.injEq] at hu
      obtain ⟨rfl, rfl⟩ := hu
      exact HMap.upd_eq _ _ _
    · rw [List.getElem?_set, if_neg (Ne.symm hut)] at hu
      rw [HMap.upd_ne _ _ (by omega), HMap.upd_ne _ _ (by omega), HMap.upd_ne _ _ (by omega)]; exact h.op u bu ou hu
theorem HoW.least_result (h : HoW W w b bw bb bj b9 b10 b11 c m x j fs ats ps) {th bo : Nat} {o : GOp} (ht : ps[th]? = some (some (bo, o))) :
    Calls Try.prog 15 #[.pointer (some ⟨bo, 0, none⟩)] w fun e w' => e = .returned (.tuple #[.int .i64 (if o.pc = 6 then o.code else 0 : Nat), .int .u64 (if o.pc = 6 then o.v else 0 : Nat)]) ∧ Below w.heap.size w w' := by
  obtain ⟨χ, mp, h⟩ := h
  exact gresult_calls bo 1 2 0 _ _ _ _ _ _ w (h.hp.blk (h.op th bo o ht))
/-- the memory has changed. -/
theorem HoW.memory (h : HoW W w b bw bb bj b9 b10 b11 c m x j fs ats ps) {c' : Nat} (hm : MemAt w' b bw bb [c', m, 0, x]) (hc : Chg (fun k => k = b ∨ k = bw) w w') : HoW W w' b bw bb bj b9 b10 b11 c' m x j fs ats ps := by
  obtain ⟨χ, mp, h⟩ := h
  obtain ⟨y1, y2, k1, k2⟩ := h.hp.mem h.mem hc hm rfl
  refine ⟨χ, _, k1, ?_, k2, ?_, ?_, ?_, ?_, h.lf, h.la, h.lp, fun u bu ou hu => ?_⟩
  · rw [HMap.upd_ne _ _ (by decide), HMap.upd_ne _ _ (by decide)]; exact h.gv
  · rw [HMap.upd_ne _ _ (by decide), HMap.upd_ne _ _ (by decide)]; exact h.jn
  · rw [HMap.upd_ne _ _ (by decide), HMap.upd_ne _ _ (by decide)]; exact h.ls
  · rw [HMap.upd_ne _ _ (by decide), HMap.upd_ne _ _ (by decide)]; exact h.fr
  · rw [HMap.upd_ne _ _ (by decide), HMap.upd_ne _ _ (by decide)]; exact h.aa
  · rw [HMap.upd_ne _ _ (by omega), HMap.upd_ne _ _ (by omega)]; exact h.op u bu ou hu
/-- a thread's number is set. -/
theorem HoW.from (h : HoW W w b bw bb bj b9 b10 b11 c m x j fs ats ps) (th v : Nat) : HoW W (w.setCell ⟨b10, th, none⟩ (.int .u64 (v : Nat))) b bw bb bj b9 b10 b11 c m x j (fs.set th v) ats ps := by
  obtain ⟨χ, mp, h⟩ := h
  have k := h.hp.set h.fr th (.int .u64 (v : Nat))
  have e : (wordVals fs).set th (.int .u64 (v : Nat)) = wordVals (fs.set th v) := by unfold wordVals; rw [List.map_set]
  rw [e] at k
  refine ⟨χ, _, k, ?_, h.mem.upd _ (by decide) (by decide) (by decide), ?_, ?_, HMap.upd_eq _ _ _, ?_, by rw [List.length_set]; exact h.lf, h.la, h.lp, fun u bu ou hu => ?_⟩
  · rw [HMap.upd_ne _ _ (by decide)]; exact h.gv
  · rw [HMap.upd_ne _ _ (by decide)]; exact h.jn
  · rw [HMap.upd_ne _ _ (by decide)]; exact h.ls
  · rw [HMap.upd_ne _ _ (by decide)]; exact h.aa
  · rw [HMap.upd_ne _ _ (by omega)]; exact h.op u bu ou hu
/-- a thread's place is set. -/
theorem HoW.place (h : HoW W w b bw bb bj b9 b10 b11 c m x j fs ats ps) (th v : Nat) : HoW W (w.setCell ⟨b11, th, none⟩ (.int .i64 (v : Nat))) b bw bb bj b9 b10 b11 c m x j fs (ats.set th v) ps := by
  obtain ⟨χ, mp, h⟩ := h
  have k := h.hp.set h.aa th (.int .i64 (v : Nat))
  have e : (atVals ats).set th (.int .i64 (v : Nat)) = atVals (ats.set th v) := by unfold atVals; rw [List.map_set]
  rw [e] at k
  refine ⟨χ, _, k, ?_, h.mem.upd _ (by decide) (by decide) (by decide), ?_, ?_, ?_, HMap.upd_eq _ _ _, h.lf, by rw [List.length_set]; exact h.la, h.lp, fun u bu ou hu => ?_⟩
  · rw [HMap.upd_ne _ _ (by decide)]; exact h.gv
  · rw [HMap.upd_ne _ _ (by decide)]; exact h.jn
  · rw [HMap.upd_ne _ _ (by decide)]; exact h.ls
  · rw [HMap.upd_ne _ _ (by decide)]; exact h.fr
  · rw [HMap.upd_ne _ _ (by omega)]; exact h.op u bu ou hu
/-- a thread has a new Least. -/
theorem HoW.new (h : HoW W w b bw bb bj b9 b10 b11 c m x j fs ats ps) {th bo : Nat} {o : GOp} (hth : th < 2) (hb : Below w.heap.size w w') (hge : w.heap.size ≤ bo) (hk : Blk w' bo 88 (o.cells 1 2 0)) :
    HoW W (w'.setCell ⟨b9, th, none⟩ (.pointer (some ⟨bo, 0, none⟩))) b bw bb bj b9 b10 b11 c m x j fs ats (ps.set th (some (bo, o))) := by
  obtain ⟨χ, mp, h⟩ := h
  obtain ⟨χ', k1, _⟩ := h.hp.add (t := 9 + th) hb (by omega) hge hk
  have k2 := k1.set (t := 6) (by rw [HMap.upd_ne _ _ (by omega)]; exact h.ls) th (.pointer (some ⟨bo, 0, none⟩))
  have e : (ps.map pVal).set th (.pointer (some ⟨bo, 0, none⟩)) = (ps.set th (some (bo, o))).map pVal := by rw [List.map_set]; rfl
  rw [e] at k2
  have hthl : th < ps.length := by rw [h.lp]; exact hth
  refine ⟨χ', _, k2, ?_, (h.mem.upd _ (by omega) (by omega) (by omega)).upd _ (by decide) (by decide) (by decide), ?_, HMap.upd_eq _ _ _, ?_, ?_, h.lf, h.la, by rw [List.length_set]; exact h.lp, fun u bu ou hu => ?_⟩
  · rw [HMap.upd_ne _ _ (by decide), HMap.upd_ne _ _ (by omega)]; exact h.gv
  · rw [HMap.upd_ne _ _ (by decide), HMap.upd_ne _ _ (by omega)]; exact h.jn
  · rw [HMap.upd_ne _ _ (by decide), HMap.upd_ne _ _ (by omega)]; exact h.fr
  · rw [HMap.upd_ne _ _ (by decide), HMap.upd_ne _ _ (by omega)]; exact h.aa
  · by_cases hut : u = th
    · subst hut
      rw [List.getElem?_set, if_pos rfl, if_pos hthl] at hu
      simp only [Option.some.injEq, Prod.mk.injEq] at hu
      obtain ⟨rfl, rfl⟩ := hu
      rw [HMap.upd_ne _ _ (by omega)]
      exact HMap.upd_eq _ _ _
    · rw [List.getElem?_set, if_neg (Ne.symm hut)] at hu
      rw [HMap.upd_ne _ _ (by omega), HMap.upd_ne _ _ (by omega)]; exact h.op u bu ou hu
end Go.Proofs.Ytjmooohhndjmiaa
