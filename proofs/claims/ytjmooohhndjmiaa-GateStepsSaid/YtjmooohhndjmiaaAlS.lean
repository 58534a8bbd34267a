/- GateAlone: what holds at the loop's head. -/
import Derived.Test.YtjmooohhndjmiaaGatX
import Derived.Test.YtjmooohhndjmiaaGatV
namespace Go.Proofs.Ytjmooohhndjmiaa
open Go.RowKit Go.Deep
set_option linter.unusedVariables false
set_option linter.unusedSimpArgs false

theorem gok14 : GOk 1 4 0 := ⟨by decide, by decide, by decide, by decide⟩
/-- since W: the gate's variable, the memory, the map; i rounds are done, the cursor is at c, the mask is m, the words are r. -/
structure AlSt (W w : World) (b bw bb bm i c m : Nat) (r r' : List Nat) (m' : Nat) : Prop where
  sys : GSys W w W.heap.size 1 4 0 b bw bb (c :: m :: r)
  got : InAt w bm i m' r'
  lr : r.length = 4
  m16 : m < 16
  ge : W.heap.size ≤ bm
  n0 : bm ≠ W.heap.size
  n1 : bm ≠ b
  n2 : bm ≠ bw
  n3 : bm ≠ bb
theorem AlSt.start {W w : World} {b bw bb : Nat} (h : GSys W w W.heap.size 1 4 0 b bw bb [0, 0, 0, 0, 0, 0]) : AlSt W (w.alloc (.map #[] 0)) b bw bb w.heap.size 0 0 0 [0, 0, 0, 0] [0, 0, 0, 0] 0 := by
  obtain ⟨l0, l1, l2, l3⟩ := h.lts
  have := h.below.size
  exact ⟨h.alloc _, in_made w _, rfl, by decide, this, by omega, by omega, by omega, by omega⟩
theorem AlSt.keep {W w w' : World} {b bw bb bm i c m : Nat} {r r' : List Nat} {m' : Nat} (h : AlSt W w b bw bb bm i c m r r' m') (hb : Below w.heap.size w w') : AlSt W w' b bw bb bm i c m r r' m' :=
  ⟨h.sys.keep hb, h.got.chg (chg_of_below (fun _ => False) hb) (fun h => h), h.lr, h.m16, h.ge, h.n0, h.n1, h.n2, h.n3⟩
theorem AlSt.next {W w : World} {b bw bb bm i c m : Nat} {r r' : List Nat} {m' : Nat} (h : AlSt W w b bw bb bm i c m r r' m') : AlSt W w b bw bb bm (i + 1) c m r r' m' :=
  ⟨h.sys, h.got.mono (Nat.le_succ _), h.lr, h.m16, h.ge, h.n0, h.n1, h.n2, h.n3⟩
theorem AlSt.lts {W w : World} {b bw bb bm i c m : Nat} {r r' : List Nat} {m' : Nat} (h : AlSt W w b bw bb bm i c m r r' m') : W.heap.size < w.heap.size ∧ b < w.heap.size ∧ bw < w.heap.size ∧ bb < w.heap.size ∧ bm < w.heap.size := by
  obtain ⟨l0, l1, l2, l3⟩ := h.sys.lts
  exact ⟨l0, l1, l2, l3, h.got.lt⟩
theorem AlSt.c64 {W w : World} {b bw bb bm i c m : Nat} {r r' : List Nat} {m' : Nat} (h : AlSt W w b bw bb bm i c m r r' m') : c < 18446744073709551616 := h.sys.mem.getD_lt 0
/-- the cursor's word is set. -/
theorem AlSt.now {W w w' : World} {b bw bb bm i c m : Nat} {r r' : List Nat} {m' : Nat} (h : AlSt W w b bw bb bm i c m r r' m') {x : Nat} (hs : GSys W w' W.heap.size 1 4 0 b bw bb (x :: m :: r)) (hc : Chg (fun k => k = b ∨ k = bw) w w') : AlSt W w' b bw bb bm i x m r r' m' :=
  ⟨hs, h.got.chg hc (fun e => e.elim h.n1 h.n2), h.lr, h.m16, h.ge, h.n0, h.n1, h.n2, h.n3⟩
/-- an operation was done. -/
theorem AlSt.ran {W w w' : World} {b bw bb bm i c m bo : Nat} {r r' : List Nat} {m' : Nat} (h : AlSt W w b bw bb bm i c m r r' m') (hbo : bm ≠ bo) {m2 : Nat} {r2 : List Nat} (hs : GSys W w' W.heap.size 1 4 0 b bw bb (c :: m2 :: r2)) (hc : Chg (fun k => k = b ∨ k = bw ∨ k = bo) w w') (h2 : r2.length = 4) (hm : m2 < 16) : AlSt W w' b bw bb bm i c m2 r2 r' m' :=
  ⟨hs, h.got.chg hc (fun e => e.elim h.n1 (fun e => e.elim h.n2 hbo)), h2, hm, h.ge, h.n0, h.n1, h.n2, h.n3⟩
/-- the map is changed. -/
theorem AlSt.map {W w w' : World} {b bw bb bm i c m : Nat} {r r' : List Nat} {m' : Nat} (h : AlSt W w b bw bb bm i c m r r' m') {j m2 : Nat} {r2 : List Nat} (hi : InAt w' bm j m2 r2) (hg : w.grownBy w' (some bm)) : AlSt W w' b bw bb bm j c m r r2 m2 :=
  ⟨h.sys.set (chg_of_grown hg) (fun j hj => by subst hj; exact ⟨h.ge, h.n0⟩) (h.sys.mem.chg (chg_of_grown hg) (fun e => h.n1 e.symm) (fun e => h.n2 e.symm) (fun e => h.n3 e.symm)), hi, h.lr, h.m16, h.ge, h.n0, h.n1, h.n2, h.n3⟩
/-- .. and what is asked for in this round, in the block ba. -/
structure AlR (W w : World) (b bw bb bm ba i c m : Nat) (r r' : List Nat) (m' : Nat) (z k v : Int) : Prop where
  st : AlSt W w b bw bb bm i c m r r' m'
  box : Blk w ba 42 [.int .i64 z, .int .i64 k, .int .u64 v]
  a1 : ba ≠ b
  a2 : ba ≠ bw
  a3 : ba ≠ bm
theorem AlSt.ask {W w : World} {b bw bb bm i c m : Nat} {r r' : List Nat} {m' : Nat} (h : AlSt W w b bw bb bm i c m r r' m') (z k v : Int) : AlR W (w.alloc (.cells #[.int .i64 z, .int .i64 k, .int .u64 v] 42)) b bw bb bm w.heap.size i c m r r' m' z k v := by
  obtain ⟨l0, l1, l2, l3, l4⟩ := h.lts
  exact ⟨h.keep (bnew (Below.refl _ _) _), blk_new w 42 #[.int .i64 z, .int .i64 k, .int .u64 v] _ rfl, by omega, by omega, by omega⟩
theorem AlR.keep {W w w' : World} {b bw bb bm ba i c m : Nat} {r r' : List Nat} {m' : Nat} {z k v : Int} (h : AlR W w b bw bb bm ba i c m r r' m' z k v) (hb : Below w.heap.size w w') : AlR W w' b bw bb bm ba i c m r r' m' z k v :=
  ⟨h.st.keep hb, h.box.chg (chg_of_below (fun _ => False) hb) (fun h => h), h.a1, h.a2, h.a3⟩
theorem AlR.now {W w w' : World} {b bw bb bm ba i c m : Nat} {r r' : List Nat} {m' : Nat} {z k v : Int} (h : AlR W w b bw bb bm ba i c m r r' m' z k v) {x : Nat} (hs : GSys W w' W.heap.size 1 4 0 b bw bb (x :: m :: r)) (hc : Chg (fun k => k = b ∨ k = bw) w w') : AlR W w' b bw bb bm ba i x m r r' m' z k v :=
  ⟨h.st.now hs hc, h.box.chg hc (fun e => e.elim h.a1 h.a2), h.a1, h.a2, h.a3⟩
theorem AlR.ran {W w w' : World} {b bw bb bm ba i c m bo : Nat} {r r' : List Nat} {m' : Nat} {z k v : Int} (h : AlR W w b bw bb bm ba i c m r r' m' z k v) (hbo : bm ≠ bo ∧ ba ≠ bo) {m2 : Nat} {r2 : List Nat} (hs : GSys W w' W.heap.size 1 4 0 b bw bb (c :: m2 :: r2)) (hc : Chg (fun k => k = b ∨ k = bw ∨ k = bo) w w') (h2 : r2.length = 4) (hm : m2 < 16) : AlR W w' b bw bb bm ba i c m2 r2 r' m' z k v :=
  ⟨h.st.ran hbo.1 hs hc h2 hm, h.box.chg hc (fun e => e.elim h.a1 (fun e => e.elim h.a2 hbo.2)), h.a1, h.a2, h.a3⟩
theorem ask3 {w : World} {A : Option Addr} {len cap : Nat} {l : List (List Int)} (h : RowsAt w [.i64, .i64, .u64] A len cap l) {k : Nat} (hk : k < len) :
    ∃ b off : Nat, ∃ x y : Int, ∃ z : Nat, A = some ⟨b, off, none⟩ ∧ w.cell? ⟨b, off + k * 3, none⟩ = some (.int .i64 x) ∧ w.cell? ⟨b, off + k * 3 + 1, none⟩ = some (.int .i64 y) ∧ w.cell? ⟨b, off + k * 3 + 2, none⟩ = some (.int .u64 (z : Nat)) ∧ z < 18446744073709551616 ∧ l.getD k [] = [x, y, (z : Int)] := by
  obtain ⟨h1, h2, h3, h4, h5⟩ := h
  obtain ⟨b, off, rfl, hc⟩ := h5 (by omega)
  have hz := h4 (l.getD k []) (by have : k < l.length := by omega
                                  simp [List.getD, this])
  match hl : l.getD k [], hz with
  | [x, y, z], hz =>
    have c0 := hc k hk 0 (.int .i64 x) (by rw [hl]; rfl)
    have c1 := hc k hk 1 (.int .i64 y) (by rw [hl]; rfl)
    have c2 := hc k hk 2 (.int .u64 z) (by rw [hl]; rfl)
    have hw := hz.2.2.1
    simp only [Lit.wf, Bool.and_eq_true, decide_eq_true_eq] at hw
    have g0 : 0 ≤ z := hw.1
    have g1 : z ≤ 18446744073709551615 := hw.2
    obtain ⟨z, rfl⟩ : ∃ n : Nat, z = n := ⟨z.toNat, by omega⟩
    exact ⟨b, off, x, y, z, rfl, c0, c1, c2, by omega, rfl⟩
theorem num_cell64 {w : World} {A : Option Addr} {len cap : Nat} {l : List (List Int)} (h : RowsAt w [.u64] A len cap l) {k : Nat} (hk : k < len) :
    ∃ b off x : Nat, A = some ⟨b, off, none⟩ ∧ w.cell? ⟨b, off + k, none⟩ = some (.int .u64 (x : Nat)) ∧ x < 18446744073709551616 := by
  obtain ⟨h1, h2, h3, h4, h5⟩ := h
  obtain ⟨b, off, rfl, hc⟩ := h5 (by omega)
  have hz := h4 (l.getD k []) (by have : k < l.length := by omega
                                  simp [List.getD, this])
  match hl : l.getD k [], hz with
  | [z], hz =>
    have c0 := hc k hk 0 (.int .u64 z) (by rw [hl]; rfl)
    have hw := hz.1
    simp only [Lit.wf, Bool.and_eq_true, decide_eq_true_eq] at hw
    have g0 : 0 ≤ z := hw.1
    have g1 : z ≤ 18446744073709551615 := hw.2
    obtain ⟨z, rfl⟩ : ∃ n : Nat, z = n := ⟨z.toNat, by omega⟩
    exact ⟨b, off, z, rfl, by simpa using c0, by omega⟩
end Go.Proofs.Ytjmooohhndjmiaa
