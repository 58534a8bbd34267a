/- the reference's gate (sluicewayref19): Step. (Printed by genrgs.py.) -/
import Derived.Test.YtjmooohhndjmiaaRgU
import Derived.Test.YtjmooohhndjmiaaGatS
import Derived.Deep.CutBlock
import Derived.Deep.DeepCutAuto
namespace Go.Proofs.Ytjmooohhndjmiaa
open Go.RowKit Go.Deep
set_option linter.unusedVariables false
set_option linter.unusedSimpArgs false

/-- what a step of the reference's operation tells: an operation, and a memory. -/
def RefTold19 (w : World) (gw gb : Nat) (ws' : List Nat) (op : List Value) (e : Ending) (w' : World) : Prop :=
  ∃ (g c : Nat) (d0 d1 d2 d3 d4 d5 : Int), e = .returned (.tuple #[.agg op.toArray, .agg #[.slice (some ⟨g, 0, none⟩) ws'.length c, .slice (some ⟨gb, 0, none⟩) ws'.length ws'.length, .int .i64 d0, .int .i64 d1, .int .i64 d2, .int .i64 d3, .int .i64 d4, .int .i64 d5, .int .i64 (-1), .bool false]]) ∧
    RefAt w' g gb ws' ∧ (g = gw ∨ w.heap.size ≤ g) ∧ Below w.heap.size w w'
theorem RefAt.drew {w : World} {gw gb : Nat} {ws : List Nat} (h : RefAt w gw gb ws) : RefAt w.drew gw gb ws := ⟨h.words, h.marks, h.ne, h.pos, h.most, h.fit⟩
theorem set_same {ws : List Nat} {a : Nat} (ha : a < ws.length) : ws.set a (ws.getD a 0) = ws := by
  rw [show ws.getD a 0 = ws[a] by simp [List.getD, ha]]
  exact List.set_getElem_self ha
theorem refload_same (gw cw gb : Nat) (c0 c1 c2 c3 c4 c5 : Int) (ws : List Nat) (a : Nat) (w : World) (hm : RefAt w gw gb ws) (ha : a < ws.length) :
    Calls Try.prog 31 #[.agg #[.slice (some ⟨gw, 0, none⟩) ws.length cw, .slice (some ⟨gb, 0, none⟩) ws.length ws.length, .int .i64 c0, .int .i64 c1, .int .i64 c2, .int .i64 c3, .int .i64 c4, .int .i64 c5, .int .i64 (-1), .bool false],
      .agg #[.int .i64 0, .int .i64 a, .int .u64 0, .int .u64 0, .int .u64 0, .int .u64 0]] w fun e w' => RefTold w gb ws (ws.getD a 0) false e w' := by
  have h := refload_calls gw cw gb c0 c1 c2 c3 c4 c5 ws a 0 0 0 0 w hm ha
  rw [set_same ha] at h
  exact h
theorem refswap_same (gw cw gb : Nat) (c0 c1 c2 c3 c4 c5 : Int) (ws : List Nat) (a p q : Nat) (w : World) (hm : RefAt w gw gb ws) (ha : a < ws.length) (he : ¬ ws.getD a 0 = p) :
    Calls Try.prog 31 #[.agg #[.slice (some ⟨gw, 0, none⟩) ws.length cw, .slice (some ⟨gb, 0, none⟩) ws.length ws.length, .int .i64 c0, .int .i64 c1, .int .i64 c2, .int .i64 c3, .int .i64 c4, .int .i64 c5, .int .i64 (-1), .bool false],
      .agg #[.int .i64 2, .int .i64 a, .int .u64 p, .int .u64 q, .int .u64 0, .int .u64 0]] w fun e w' => RefTold w gb ws 0 false e w' := by
  have h := refswap0_calls gw cw gb c0 c1 c2 c3 c4 c5 ws a p q 0 0 w hm ha he
  rw [set_same ha] at h
  exact h
/-- what stands while the use is done: the operation, the memory, two places for what is told. -/
structure RSt (w W : World) (ol ml : List Value) : Prop where
  o : Blk W (w.heap.size) 44 ol
  m : Blk W (w.heap.size + 1) 34 ml
  z : Blk W (w.heap.size + 1 + 1) 44 [.int .i64 0, .int .i64 0, .int .i64 0, .int .i64 0, .int .i64 0, .int .u64 0, .int .u64 0, .int .i64 0]
  y : Blk W (w.heap.size + 1 + 1 + 1) 34 [.slice none 0 0, .slice none 0 0, .int .i64 0, .int .i64 0, .int .i64 0, .int .i64 0, .int .i64 0, .int .i64 0, .int .i64 0, .bool false]
  b : Below w.heap.size w W
theorem RSt.below {w W W' : World} {ol ml : List Value} (h : RSt w W ol ml) (hb : Below W.heap.size W W') : RSt w W' ol ml :=
  ⟨h.o.chg (chg_of_below (fun _ => False) hb) (fun h => h), h.m.chg (chg_of_below (fun _ => False) hb) (fun h => h), h.z.chg (chg_of_below (fun _ => False) hb) (fun h => h), h.y.chg (chg_of_below (fun _ => False) hb) (fun h => h), bseq h.b hb⟩
theorem RSt.chg {w W W' : World} {ol ml : List Value} (h : RSt w W ol ml) {tt : Nat} (ht : w.heap.size + 1 + 1 + 1 < tt) (hc : Chg (fun j => j = tt) W W') : RSt w W' ol ml :=
  ⟨h.o.chg hc (fun e => by omega), h.m.chg hc (fun e => by omega), h.z.chg hc (fun e => by omega), h.y.chg hc (fun e => by omega), Chg.below h.b hc h.b.size (fun k hk => by omega)⟩
theorem RSt.drew {w W : World} {ol ml : List Value} (h : RSt w W ol ml) : RSt w W.drew ol ml := h.below (Below.refl _ _).drew
theorem rst_new (w : World) (o0 o1 o2 o3 o4 o5 o6 o7 m0 m1 m2 m3 m4 m5 m6 m7 m8 m9 : Value) :
    RSt w ((((w.alloc (Obj.cells #[o0, o1, o2, o3, o4, o5, o6, o7] 44)).alloc (Obj.cells #[m0, m1, m2, m3, m4, m5, m6, m7, m8, m9] 34)).alloc (Obj.cells #[.int .i64 0, .int .i64 0, .int .i64 0, .int .i64 0, .int .i64 0, .int .u64 0, .int .u64 0, .int .i64 0] 44)).alloc (Obj.cells #[.slice none 0 0, .slice none 0 0, .int .i64 0, .int .i64 0, .int .i64 0, .int .i64 0, .int .i64 0, .int .i64 0, .int .i64 0, .bool false] 34)) [o0, o1, o2, o3, o4, o5, o6, o7] [m0, m1, m2, m3, m4, m5, m6, m7, m8, m9] := by
  have a0 := blk_new w 44 #[o0, o1, o2, o3, o4, o5, o6, o7] _ rfl
  have a1 := blk_new (w.alloc (Obj.cells #[o0, o1, o2, o3, o4, o5, o6, o7] 44)) 34 #[m0, m1, m2, m3, m4, m5, m6, m7, m8, m9] _ rfl
  have a2 := blk_new ((w.alloc (Obj.cells #[o0, o1, o2, o3, o4, o5, o6, o7] 44)).alloc (Obj.cells #[m0, m1, m2, m3, m4, m5, m6, m7, m8, m9] 34)) 44 #[.int .i64 0, .int .i64 0, .int .i64 0, .int .i64 0, .int .i64 0, .int .u64 0, .int .u64 0, .int .i64 0] _ rfl
  have a3 := blk_new (((w.alloc (Obj.cells #[o0, o1, o2, o3, o4, o5, o6, o7] 44)).alloc (Obj.cells #[m0, m1, m2, m3, m4, m5, m6, m7, m8, m9] 34)).alloc (Obj.cells #[.int .i64 0, .int .i64 0, .int .i64 0, .int .i64 0, .int .i64 0, .int .u64 0, .int .u64 0, .int .i64 0] 44)) 34 #[.slice none 0 0, .slice none 0 0, .int .i64 0, .int .i64 0, .int .i64 0, .int .i64 0, .int .i64 0, .int .i64 0, .int .i64 0, .bool false] _ rfl
  simp only [World.size_alloc] at a1 a2 a3
  exact ⟨((a0.alloc _).alloc _).alloc _, (a1.alloc _).alloc _, a2.alloc _, a3, bnew (bnew (bnew (bnew (Below.refl _ _) _) _) _) _⟩
theorem rst_cells {w W : World} {o0 o1 o2 o3 o4 o5 o6 o7 m0 m1 m2 m3 m4 m5 m6 m7 m8 m9 : Value} (h : RSt w W [o0, o1, o2, o3, o4, o5, o6, o7] [m0, m1, m2, m3, m4, m5, m6, m7, m8, m9]) :
    W.cell? ⟨w.heap.size, 0, none⟩ = some o0 ∧ W.cell? ⟨w.heap.size, 1, none⟩ = some o1 ∧ W.cell? ⟨w.heap.size, 2, none⟩ = some o2 ∧ W.cell? ⟨w.heap.size, 3, none⟩ = some o3 ∧ W.cell? ⟨w.heap.size, 4, none⟩ = some o4 ∧ W.cell? ⟨w.heap.size, 5, none⟩ = some o5 ∧ W.cell? ⟨w.heap.size, 6, none⟩ = some o6 ∧ W.cell? ⟨w.heap.size, 7, none⟩ = some o7 ∧ W.cell? ⟨w.heap.size + 1, 0, none⟩ = some m0 ∧ W.cell? ⟨w.heap.size + 1, 1, none⟩ = some m1 ∧ W.cell? ⟨w.heap.size + 1, 2, none⟩ = some m2 ∧ W.cell? ⟨w.heap.size + 1, 3, none⟩ = some m3 ∧ W.cell? ⟨w.heap.size + 1, 4, none⟩ = some m4 ∧ W.cell? ⟨w.heap.size + 1, 5, none⟩ = some m5 ∧ W.cell? ⟨w.heap.size + 1, 6, none⟩ = some m6 ∧ W.cell? ⟨w.heap.size + 1, 7, none⟩ = some m7 ∧ W.cell? ⟨w.heap.size + 1, 8, none⟩ = some m8 ∧ W.cell? ⟨w.heap.size + 1, 9, none⟩ = some m9 :=
  ⟨h.o.cell 0, h.o.cell 1, h.o.cell 2, h.o.cell 3, h.o.cell 4, h.o.cell 5, h.o.cell 6, h.o.cell 7, h.m.cell 0, h.m.cell 1, h.m.cell 2, h.m.cell 3, h.m.cell 4, h.m.cell 5, h.m.cell 6, h.m.cell 7, h.m.cell 8, h.m.cell 9⟩
theorem cf8 {W : World} {b : Nat} {t : TypeId} {o0 o1 o2 o3 o4 o5 o6 o7 : Value} (h : Blk W b t [o0, o1, o2, o3, o4, o5, o6, o7]) :
    W.cell? ⟨b, 0, none⟩ = some o0 ∧ W.cell? ⟨b, 1, none⟩ = some o1 ∧ W.cell? ⟨b, 2, none⟩ = some o2 ∧ W.cell? ⟨b, 3, none⟩ = some o3 ∧ W.cell? ⟨b, 4, none⟩ = some o4 ∧ W.cell? ⟨b, 5, none⟩ = some o5 ∧ W.cell? ⟨b, 6, none⟩ = some o6 ∧ W.cell? ⟨b, 7, none⟩ = some o7 ∧ W.frozen? ⟨b, 0, none⟩ = false ∧ W.frozen? ⟨b, 1, none⟩ = false ∧ W.frozen? ⟨b, 2, none⟩ = false ∧ W.frozen? ⟨b, 3, none⟩ = false ∧ W.frozen? ⟨b, 4, none⟩ = false ∧ W.frozen? ⟨b, 5, none⟩ = false ∧ W.frozen? ⟨b, 6, none⟩ = false ∧ W.frozen? ⟨b, 7, none⟩ = false :=
  ⟨h.cell 0, h.cell 1, h.cell 2, h.cell 3, h.cell 4, h.cell 5, h.cell 6, h.cell 7, h.free 0, h.free 1, h.free 2, h.free 3, h.free 4, h.free 5, h.free 6, h.free 7⟩
theorem cf10 {W : World} {b : Nat} {t : TypeId} {o0 o1 o2 o3 o4 o5 o6 o7 o8 o9 : Value} (h : Blk W b t [o0, o1, o2, o3, o4, o5, o6, o7, o8, o9]) :
    W.cell? ⟨b, 0, none⟩ = some o0 ∧ W.cell? ⟨b, 1, none⟩ = some o1 ∧ W.cell? ⟨b, 2, none⟩ = some o2 ∧ W.cell? ⟨b, 3, none⟩ = some o3 ∧ W.cell? ⟨b, 4, none⟩ = some o4 ∧ W.cell? ⟨b, 5, none⟩ = some o5 ∧ W.cell? ⟨b, 6, none⟩ = some o6 ∧ W.cell? ⟨b, 7, none⟩ = some o7 ∧ W.cell? ⟨b, 8, none⟩ = some o8 ∧ W.cell? ⟨b, 9, none⟩ = some o9 ∧ W.frozen? ⟨b, 0, none⟩ = false ∧ W.frozen? ⟨b, 1, none⟩ = false ∧ W.frozen? ⟨b, 2, none⟩ = false ∧ W.frozen? ⟨b, 3, none⟩ = false ∧ W.frozen? ⟨b, 4, none⟩ = false ∧ W.frozen? ⟨b, 5, none⟩ = false ∧ W.frozen? ⟨b, 6, none⟩ = false ∧ W.frozen? ⟨b, 7, none⟩ = false ∧ W.frozen? ⟨b, 8, none⟩ = false ∧ W.frozen? ⟨b, 9, none⟩ = false :=
  ⟨h.cell 0, h.cell 1, h.cell 2, h.cell 3, h.cell 4, h.cell 5, h.cell 6, h.cell 7, h.cell 8, h.cell 9, h.free 0, h.free 1, h.free 2, h.free 3, h.free 4, h.free 5, h.free 6, h.free 7, h.free 8, h.free 9⟩
/-- .. and behind it: the operation, the memory that was told, two places. -/
structure RQt (w W : World) (tt gg gb : Nat) (ws' : List Nat) (ol zl ml yl : List Value) : Prop where
  o : Blk W (w.heap.size) 44 ol
  z : Blk W (w.heap.size + 1 + 1) 44 zl
  y : Blk W (w.heap.size + 1 + 1 + 1) 34 yl
  t : Blk W tt 34 ml
  b : Below w.heap.size w W
  r : RefAt W gg gb ws'
  tl : w.heap.size + 1 + 1 + 1 < tt
  gl : gb < w.heap.size
  g0 : w.heap.size ≤ gg
  g1 : gg ≠ w.heap.size ∧ gg ≠ w.heap.size + 1 + 1 ∧ gg ≠ w.heap.size + 1 + 1 + 1 ∧ gg ≠ tt
theorem RQt.below {w W W' : World} {tt gg gb : Nat} {ws' : List Nat} {ol zl ml yl : List Value} (h : RQt w W tt gg gb ws' ol zl ml yl) (hb : Below W.heap.size W W') : RQt w W' tt gg gb ws' ol zl ml yl :=
  ⟨h.o.chg (chg_of_below (fun _ => False) hb) (fun h => h), h.z.chg (chg_of_below (fun _ => False) hb) (fun h => h), h.y.chg (chg_of_below (fun _ => False) hb) (fun h => h), h.t.chg (chg_of_below (fun _ => False) hb) (fun h => h), bseq h.b hb, h.r.below hb, h.tl, h.gl, h.g0, h.g1⟩
theorem RQt.drew {w W : World} {tt gg gb : Nat} {ws' : List Nat} {ol zl ml yl : List Value} (h : RQt w W tt gg gb ws' ol zl ml yl) : RQt w W.drew tt gg gb ws' ol zl ml yl := h.below (Below.refl _ _).drew
theorem RQt.setO {w W W' : World} {tt gg gb : Nat} {ws' : List Nat} {ol zl ml yl : List Value} (h : RQt w W tt gg gb ws' ol zl ml yl) {ol' : List Value} (hb : Blk W' (w.heap.size) 44 ol') (hc : Chg (fun j => j = w.heap.size) W W') : RQt w W' tt gg gb ws' ol' zl ml yl :=
  ⟨hb, h.z.chg hc (fun e => by omega), h.y.chg hc (fun e => by omega), h.t.chg hc (fun e => by have := h.tl; omega), Chg.below h.b hc h.b.size (fun k hk => by omega), h.r.chg hc (fun e => h.g1.1 e) (fun e => by have := h.gl; omega), h.tl, h.gl, h.g0, h.g1⟩
theorem RQt.setZ {w W W' : World} {tt gg gb : Nat} {ws' : List Nat} {ol zl ml yl : List Value} (h : RQt w W tt gg gb ws' ol zl ml yl) {zl' : List Value} (hb : Blk W' (w.heap.size + 1 + 1) 44 zl') (hc : Chg (fun j => j = w.heap.size + 1 + 1) W W') : RQt w W' tt gg gb ws' ol zl' ml yl :=
  ⟨h.o.chg hc (fun e => by omega), hb, h.y.chg hc (fun e => by omega), h.t.chg hc (fun e => by have := h.tl; omega), Chg.below h.b hc h.b.size (fun k hk => by omega), h.r.chg hc (fun e => h.g1.2.1 e) (fun e => by have := h.gl; omega), h.tl, h.gl, h.g0, h.g1⟩
theorem RQt.setY {w W W' : World} {tt gg gb : Nat} {ws' : List Nat} {ol zl ml yl : List Value} (h : RQt w W tt gg gb ws' ol zl ml yl) {yl' : List Value} (hb : Blk W' (w.heap.size + 1 + 1 + 1) 34 yl') (hc : Chg (fun j => j = w.heap.size + 1 + 1 + 1) W W') : RQt w W' tt gg gb ws' ol zl ml yl' :=
  ⟨h.o.chg hc (fun e => by omega), h.z.chg hc (fun e => by omega), hb, h.t.chg hc (fun e => by have := h.tl; omega), Chg.below h.b hc h.b.size (fun k hk => by omega), h.r.chg hc (fun e => h.g1.2.2.1 e) (fun e => by have := h.gl; omega), h.tl, h.gl, h.g0, h.g1⟩
theorem rqt_cells {w W : World} {tt gg gb : Nat} {ws' : List Nat} {zl yl : List Value} {o0 o1 o2 o3 o4 o5 o6 o7 m0 m1 m2 m3 m4 m5 m6 m7 m8 m9 : Value} (h : RQt w W tt gg gb ws' [o0, o1, o2, o3, o4, o5, o6, o7] zl [m0, m1, m2, m3, m4, m5, m6, m7, m8, m9] yl) :
    W.cell? ⟨w.heap.size, 0, none⟩ = some o0 ∧ W.cell? ⟨w.heap.size, 1, none⟩ = some o1 ∧ W.cell? ⟨w.heap.size, 2, none⟩ = some o2 ∧ W.cell? ⟨w.heap.size, 3, none⟩ = some o3 ∧ W.cell? ⟨w.heap.size, 4, none⟩ = some o4 ∧ W.cell? ⟨w.heap.size, 5, none⟩ = some o5 ∧ W.cell? ⟨w.heap.size, 6, none⟩ = some o6 ∧ W.cell? ⟨w.heap.size, 7, none⟩ = some o7 ∧ W.cell? ⟨tt, 0, none⟩ = some m0 ∧ W.cell? ⟨tt, 1, none⟩ = some m1 ∧ W.cell? ⟨tt, 2, none⟩ = some m2 ∧ W.cell? ⟨tt, 3, none⟩ = some m3 ∧ W.cell? ⟨tt, 4, none⟩ = some m4 ∧ W.cell? ⟨tt, 5, none⟩ = some m5 ∧ W.cell? ⟨tt, 6, none⟩ = some m6 ∧ W.cell? ⟨tt, 7, none⟩ = some m7 ∧ W.cell? ⟨tt, 8, none⟩ = some m8 ∧ W.cell? ⟨tt, 9, none⟩ = some m9 :=
  ⟨h.o.cell 0, h.o.cell 1, h.o.cell 2, h.o.cell 3, h.o.cell 4, h.o.cell 5, h.o.cell 6, h.o.cell 7, h.t.cell 0, h.t.cell 1, h.t.cell 2, h.t.cell 3, h.t.cell 4, h.t.cell 5, h.t.cell 6, h.t.cell 7, h.t.cell 8, h.t.cell 9⟩
end Go.Proofs.Ytjmooohhndjmiaa
