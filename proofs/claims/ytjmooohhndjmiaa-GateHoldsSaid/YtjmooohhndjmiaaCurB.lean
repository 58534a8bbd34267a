/- contracts of package cursor: making an operation. -/
import Derived.Test.YtjmooohhndjmiaaCur
namespace Go.Proofs.Ytjmooohhndjmiaa
open Go.RowKit Go.Deep
set_option maxRecDepth 100000

/-- 'copy' into a row that is just as long. -/
theorem wpList_copy_all {P : Program} {w : World} {ops : Array Oper} {rest : List Oper} {o : Oper} {a : Act} {Q : Exit → Act → World → Prop} (hgd : o.guard = none) (d s : Operand) (dT sT : TypeId)
    (ho : o.op = .call { callee := .builtin .copy, args := #[d, s], argTypes := #[dT, sT] }) (elem : TypeId) (hu : P.underlying dT = some (.slice elem)) (hsz : (P.info? elem).map (·.size) = some 1)
    (g n dCap : Nat) (sp : Option Addr) (sCap : Nat) (hd : a.eval d = .slice (some ⟨g, 0, none⟩) n dCap) (hs : a.eval s = .slice sp n sCap)
    (cur : List Value) (t : TypeId) (hg : Hid (Blk w g t cur)) (cs : List Value) (hn : cs.length = n) (hc : cur.length = n)
    (hpos : 0 < n → ∃ ad, sp = some ad ∧ ∀ j v, cs[j]? = some v → w.cell? (ad.add j) = some v) (h1 : ∀ v ∈ cs, v.oneCell' = true)
    (h : ∀ w', Hid (Blk w' g t cs) → Hid (Chg (fun k => k = g) w w') → wpList P ops Q rest (a.put o.dst (goInt n)) w') :
    wpList P ops Q (o :: rest) a w := by
  by_cases h0 : n = 0
  · subst h0
    obtain rfl : cs = [] := List.eq_nil_of_length_eq_zero hn
    obtain rfl : cur = [] := List.eq_nil_of_length_eq_zero hc
    exact wpList_copy_nothing hgd d s dT sT ho elem hu hsz _ _ _ _ _ _ hd hs (by simp) (h w (Lib.hid hg.out) (Lib.hid (Chg.refl _ _)))
  · obtain ⟨ad, rfl, hsrc⟩ := hpos (by omega)
    refine wpList_copy_own hgd d s dT sT ho elem hu hsz g 0 n dCap ad n sCap hd hs cur.toArray t hg.out cs (by rw [hn]; exact (Nat.min_self n).symm) hsrc (by simp; omega) h1 ?_
    rw [hn]
    refine h _ (Lib.hid ?_) (Lib.hid ?_)
    · unfold Blk
      rw [setRow_heap w g _ _ t _ hg.out]
      simp [List.drop_eq_nil_of_le (show cur.length ≤ n by omega)]
    · exact ⟨rfl, rfl, rfl, by simp [World.setRow], fun k _ hk => setRow_other w g k _ hk⟩

theorem info_int : (Try.prog.info? 3).map (fun i => (i.zero, i.size, i.bytes)) = some (some (.int .i64 0), 1, 8) := by kernel_rfl
theorem info_int_size : (Try.prog.info? 3).map (·.size) = some 1 := by kernel_rfl
theorem made_ints (n : Nat) : (madeCells #[Value.int .i64 0] n).toList = intVals (List.replicate n 0) := by
  apply List.ext_getElem
  · simp [intVals, madeCells]
  · intro i h1 h2
    simp [intVals, madeCells, Nat.mod_one]

theorem begin_world (w : World) (A S M : Int) (n : Nat) : ∃ W1, W1 = (((w.alloc (Obj.cells #[Value.int IntKind.i64 A, Value.int IntKind.i64 S] 95)).alloc (Obj.cells (madeCells #[Value.int IntKind.i64 0] n) 3)).alloc
    (Obj.cells #[Value.bool true, Value.int IntKind.i64 A, Value.int IntKind.i64 S, Value.int IntKind.i64 M, Value.slice (some { block := w.heap.size + 1, off := 0 }) n n, Value.int IntKind.i64 0, Value.int IntKind.i64 0, Value.int IntKind.u64 0, Value.int IntKind.u64 0, Value.int IntKind.i64 0] 104)).drew ∧
    Blk W1 (w.heap.size + 1 + 1) 104 (opCells A S M (w.heap.size + 1) n 0 0 0 0 0) ∧ Blk W1 (w.heap.size + 1) 3 (intVals (List.replicate n 0)) ∧ Blk W1 w.heap.size 95 [.int .i64 A, .int .i64 S] ∧ Below w.heap.size w W1 := by
  refine ⟨_, rfl, ?_, ?_, ?_, ?_⟩
  · have b3 := blk_new ((w.alloc (Obj.cells #[Value.int IntKind.i64 A, Value.int IntKind.i64 S] 95)).alloc (Obj.cells (madeCells #[Value.int IntKind.i64 0] n) 3)) 104 #[Value.bool true, Value.int IntKind.i64 A, Value.int IntKind.i64 S, Value.int IntKind.i64 M, Value.slice (some { block := w.heap.size + 1, off := 0 }) n n, Value.int IntKind.i64 0, Value.int IntKind.i64 0, Value.int IntKind.u64 0, Value.int IntKind.u64 0, Value.int IntKind.i64 0] _ rfl
    simp only [World.size_alloc] at b3
    exact b3
  · have b2 := blk_new (w.alloc (Obj.cells #[Value.int IntKind.i64 A, Value.int IntKind.i64 S] 95)) 3 _ _ (made_ints n)
    simp only [World.size_alloc] at b2
    exact b2.alloc _
  · exact ((blk_new w 95 #[Value.int IntKind.i64 A, Value.int IntKind.i64 S] _ rfl).alloc _).alloc _
  · exact ((((Below.refl _ _).alloc (Nat.le_refl _) _).alloc (by simp) _).alloc (by simp; omega) _).drew

theorem begin_bel {w W1 w2 : World} (hb : Below w.heap.size w W1) (hc : Chg (fun k => k = w.heap.size + 1) W1 w2) (o : Obj) : Below w.heap.size w (w2.alloc o) :=
  bnew (Chg.below hb hc hb.size (fun k hk => by subst hk; omega)) o
theorem begin_bel2 {w W1 w2 w4 : World} (hb : Below w.heap.size w W1) (hc : Chg (fun k => k = w.heap.size + 1) W1 w2) (o : Obj) (hd : Chg (fun k => k = w.heap.size + 1 + 1) (w2.alloc o) w4) : Below w.heap.size w w4 :=
  Chg.below (begin_bel hb hc o) hd (begin_bel hb hc o).size (fun k hk => by subst hk; omega)

def okB (A S M : Int) (n : Nat) : Bool := rightC A S && decide (0 ≤ M) && decide (M ≤ S) && decide (n ≤ 64)

/-- what a making has made: an operation that stands at its beginning, or one that is done. -/
def Begun (w w' : World) (A S M : Int) (cs : List Value) (n : Nat) (g : Bool) (e : Ending) : Prop :=
  ∃ bo bwd, e = .returned (.pointer (some ⟨bo, 0, none⟩)) ∧ Blk w' bo 104 (opCells A S M bwd n (if g then 0 else 3) 0 0 0 (if g then 0 else 2)) ∧ Blk w' bwd 3 cs ∧ w.heap.size ≤ bo ∧ w.heap.size ≤ bwd ∧ bo ≠ bwd ∧ Below w.heap.size w w'

set_option maxHeartbeats 2000000 in
theorem begin_calls (A S M : Int) (sp : Option Addr) (sCap : Nat) (l : List Int) (w : World) (hl : l.length ≤ 1048576)
    (hpos : 0 < l.length → ∃ ad, sp = some ad ∧ ∀ j v, (intVals l)[j]? = some v → w.cell? (ad.add j) = some v) :
    Calls Try.prog 59 #[.agg #[.int .i64 A, .int .i64 S], .int .i64 M, .slice sp l.length sCap] w fun e w' => Begun w w' A S M (intVals l) l.length (okB A S M l.length) e := by
  have mk : ∀ W : World, (Instr.makeSlice 23 (.int .i64 (l.length : Int)) (.int .i64 (l.length : Int))).run Try.prog W = .ok (.slice (some ⟨W.heap.size, 0, none⟩) l.length l.length) (W.alloc (.cells (madeCells #[.int .i64 0] l.length) 3)) :=
    fun W => run_make_row' 23 3 (.int .i64 0) 8 Try.underlying23 info_int rfl .i64 .i64 l.length (by omega) (by omega) W
  have hsrc : 0 < l.length → ∃ ad, sp = some ad ∧ ∀ (W : World), Below w.heap.size w W → ∀ j v, (intVals l)[j]? = some v → W.cell? (ad.add j) = some v := by
    intro h0
    obtain ⟨ad, h1, h2⟩ := hpos h0
    exact ⟨ad, h1, fun W hW j v hv => kcell hW (h2 j v hv)⟩
  have HS := Lib.hid hsrc
  have HL := Lib.hid hl
  have hnl : (intVals l).length = l.length := by simp [intVals]
  have HNL := Lib.hid hnl
  have hone : ∀ v ∈ intVals l, v.oneCell' = true := by
    intro v hv
    simp [intVals] at hv
    obtain ⟨z, _, rfl⟩ := hv
    rfl
  have HO := Lib.hid hone
  have HRC := Lib.hid (fun W => right_calls A S W)
  clear hpos hsrc hl hone hnl
  generalize intVals l = cs at *
  generalize l.length = n at *
  obtain ⟨g, hg⟩ : ∃ g, okB A S M n = g := ⟨_, rfl⟩
  obtain ⟨r, hr⟩ : ∃ r, rightC A S = r := ⟨_, rfl⟩
  unfold okB at hg
  rw [hr] at hg HRC
  rw [show okB A S M n = g by unfold okB; rw [hr]; exact hg]
  clear hr
  have hcases : (r = false ∧ g = false) ∨ (r = true ∧ decide (M < 0) = true ∧ g = false) ∨ (r = true ∧ decide (M < 0) = false ∧ decide (S < M) = true ∧ g = false) ∨ (r = true ∧ decide (M < 0) = false ∧ decide (S < M) = false ∧ decide ((64 : Int) < (n : Int)) = true ∧ g = false) ∨ (r = true ∧ decide (M < 0) = false ∧ decide (S < M) = false ∧ decide ((64 : Int) < (n : Int)) = false ∧ g = true) := by
    subst hg
    cases r <;> simp <;> omega
  clear hg
  rcases hcases with ⟨rfl, rfl⟩ | ⟨rfl, t1, rfl⟩ | ⟨rfl, t1, t2, rfl⟩ | ⟨rfl, t1, t2, t3, rfl⟩ | ⟨rfl, t1, t2, t3, rfl⟩
  all_goals
    go_enter Try.func59, Try.ntmps59
    go_wp2_with fail
    go_region
    obtain ⟨W1, hW1, hop, hrow, hbox, hbel⟩ := begin_world w A S M n
    rw [← hW1]
    clear hW1 mk
    have g4 : W1.cell? ⟨w.heap.size + 1 + 1, 4, none⟩ = some (.slice (some ⟨w.heap.size + 1, 0, none⟩) n n) := hop.cell 4
    have HR := Lib.hid hrow
    have HP : Hid (0 < n → ∃ ad, sp = some ad ∧ ∀ j v, cs[j]? = some v → W1.cell? (ad.add j) = some v) := Lib.hid (fun h0 => by
      obtain ⟨ad, h1, h2⟩ := HS.out h0
      exact ⟨ad, h1, h2 W1 hbel⟩)
    have HOP := Lib.hid hop
    have HBX := Lib.hid hbox
    have HBL := Lib.hid hbel
    have hlr : Hid ((intVals (List.replicate n 0)).length = n) := Lib.hid (by simp [intVals])
    have hszi : Hid ((Try.prog.info? 3).map (·.size) = some 1) := Lib.hid info_int_size
    generalize intVals (List.replicate n 0) = cur at *
    clear hop hrow hbox hbel
    go_wp2_with (first
      | (refine wpList_copy_all rfl (.tmp 18) (.tmp 19) 23 23 rfl 3 Try.underlying23 hszi.out (w.heap.size + 1) n n sp sCap rfl rfl cur 3 HR cs HNL.out hlr.out HP.out HO.out ?_
         intro w2 HB2 HC2
         have x0 : w2.cell? ⟨w.heap.size, 0, none⟩ = some (.int .i64 A) := (HBX.out.chg HC2.out (by show ¬ w.heap.size = w.heap.size + 1; omega)).cell 0
         have x1 : w2.cell? ⟨w.heap.size, 1, none⟩ = some (.int .i64 S) := (HBX.out.chg HC2.out (by show ¬ w.heap.size = w.heap.size + 1; omega)).cell 1)
      | (go_at_call 66; refine (HRC.out _).mono ?_; rintro e w' ⟨rfl, rfl⟩; have x2 := kalloc (.cells #[.int .i64 A, .int .i64 S] 95) x1)
      | (go_at_call 60; refine (end_calls _ A S M (w.heap.size + 1) n 0 0 0 0 0 2 0 _ ((HOP.out.chg HC2.out (by show ¬ w.heap.size + 1 + 1 = w.heap.size + 1; omega)).alloc _)).mono ?_; rintro e w4 ⟨rfl, HE⟩; have HE := Lib.hid HE))
    go_ret
    first
    | exact ⟨w.heap.size + 1 + 1, w.heap.size + 1, rfl, HE.out.1, (HB2.out.alloc _).chg HE.out.2 (by show ¬ w.heap.size + 1 = w.heap.size + 1 + 1; omega), by omega, by omega, by omega, begin_bel2 HBL.out HC2.out _ HE.out.2⟩
    | exact ⟨w.heap.size + 1 + 1, w.heap.size + 1, rfl, (HOP.out.chg HC2.out (by show ¬ w.heap.size + 1 + 1 = w.heap.size + 1; omega)).alloc _, HB2.out.alloc _, by omega, by omega, by omega, begin_bel HBL.out HC2.out _⟩
end Go.Proofs.Ytjmooohhndjmiaa
