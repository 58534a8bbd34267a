/- the opening of a conf by value and of entries that come in. -/
import Derived.Test.YtgfingdopelinaaScV
import Derived.WalkKit
import Derived.ProofKit
import Derived.OpenShut
import Derived.ChangeOld
import Derived.Below
namespace Go.Proofs.Ytgfingdopelinaa
set_option linter.unusedSimpArgs false
set_option linter.unusedVariables false
open Go.RowKit Go.ChangeShapes Go.WideShapes Go.Deep Go.ChangeAt

theorem list5 {α : Type} {l : List α} (h : l.length = 5) : ∃ a b c d e, l = [a, b, c, d, e] := by
  match l, h with
  | [a, b, c, d, e], _ => exact ⟨a, b, c, d, e, rfl⟩
theorem list9 {α : Type} {l : List α} (h : l.length = 9) : ∃ a b c d e f g i j, l = [a, b, c, d, e, f, g, i, j] := by
  match l, h with
  | [a, b, c, d, e, f, g, i, j], _ => exact ⟨a, b, c, d, e, f, g, i, j, rfl⟩
theorem nat_of_u64 {z : Int} (h : (Lit.int .u64 z).wf = true) : ∃ n : Nat, z = n ∧ n < 18446744073709551616 := by
  simp only [Lit.wf, Bool.and_eq_true, decide_eq_true_eq] at h
  obtain ⟨h1, h2⟩ := h
  change (0 : Int) ≤ z at h1
  change z ≤ 18446744073709551615 at h2
  exact ⟨z.toNat, by omega, by omega⟩
theorem rng_i64 {z : Int} (h : (Lit.int .i64 z).wf = true) : -9223372036854775808 ≤ z ∧ z < 9223372036854775808 := by
  simp only [Lit.wf, Bool.and_eq_true, decide_eq_true_eq] at h
  obtain ⟨h1, h2⟩ := h
  change (-9223372036854775808 : Int) ≤ z at h1
  change z ≤ 9223372036854775807 at h2
  omega
theorem isat_nil (w : World) : IsAt w none 0 0 [] := ⟨rfl, by omega, by omega, by simp, fun h => by omega⟩
theorem ensat_nil (w : World) : EnsAt w none 0 0 [] := ⟨rfl, by omega, by omega, by simp, fun h => by omega⟩
section
variable {H : Type} {enc : TypeId × Value → H} {W : World} {base : Nat} {spare : Nat → Bool} {held : Bool} {r : Reach} {b0 : Nat}
theorem isat_open {v : Value} {n : Nat} {y : DataW H × List MemPlace} (h : DataW.trod enc Try.prog W base spare held n 22 [v] = some y) : ∃ A m c zs, v = .slice A m c ∧ IsAt W A m c zs := by
  rcases open_ints Try.underlying22 Try.underlying3 (by kernel_rfl) h with ⟨hcs, _⟩ | ⟨x, l, c, zs, hcs, _, hl, hm, hz, _, hcell, hwz⟩
  · simp at hcs
    subst hcs
    exact ⟨_, _, _, [], rfl, isat_nil _⟩
  · simp at hcs
    subst hcs
    refine ⟨_, _, _, zs.take l, rfl, ?_⟩
    have hzl : l ≤ zs.length := by rw [hz]; split <;> omega
    refine ⟨by rw [List.length_take]; omega, hl, by simpa [maxLen] using hm, fun z h => rng_i64 (hwz z (List.mem_of_mem_take h)), fun h0 => ?_⟩
    obtain ⟨b, off, spot⟩ := x
    have hs : spot = none := by
      have := spot_none (hcell 0 (by omega))
      simpa [Addr.add] using this
    subst hs
    refine ⟨b, off, rfl, fun i hi => ?_⟩
    have h1 := hcell i (by omega)
    rw [add_none] at h1
    rw [h1]
    simp [List.getD, List.getElem?_take, hi]
theorem conf_open {v : Value} {d : DataW H} {p : List MemPlace} (hv : Value.okWide Try.prog W r b0 24 v) (h : DataW.Trod enc Try.prog W base spare held 24 v d p) :
    ∃ t A n cap words blocks sweep zs, v = confV t A n cap words blocks sweep ∧ IsAt W A n cap zs ∧ sweep < 9223372036854775808 := by
  obtain ⟨cs, rfl, hsz⟩ := okWide_struct Try.underlying24 hv
  have hC : Try.prog.cellsOf 24 = 5 := by kernel_rfl
  have k3 : Try.prog.cellsOf 3 = 1 := by kernel_rfl
  have kT : Try.prog.cellsOf 22 = 1 := by kernel_rfl
  obtain ⟨cs⟩ := cs
  obtain ⟨c0, c1, c2, c3, c4, rfl⟩ := list5 (hsz.trans hC)
  obtain ⟨fuel, hf⟩ := h
  obtain ⟨xs, n, _, _, _, hxl, hfl⟩ := DataW.trod_struct Try.underlying24 hf
  have f0 := hfl 0 _ rfl
  have f1 := hfl 1 _ rfl
  have f2 := hfl 2 _ rfl
  have f3 := hfl 3 _ rfl
  have f4 := hfl 4 _ rfl
  change DataW.trod _ _ _ _ _ _ _ 3 (List.take (Try.prog.cellsOf 3) _) = _ at f0
  change DataW.trod _ _ _ _ _ _ _ 22 (List.take (Try.prog.cellsOf 22) _) = _ at f1
  change DataW.trod _ _ _ _ _ _ _ 3 (List.take (Try.prog.cellsOf 3) _) = _ at f2
  change DataW.trod _ _ _ _ _ _ _ 3 (List.take (Try.prog.cellsOf 3) _) = _ at f3
  change DataW.trod _ _ _ _ _ _ _ 3 (List.take (Try.prog.cellsOf 3) _) = _ at f4
  rw [k3] at f0 f2 f3 f4
  rw [kT] at f1
  have hx5 : xs.length = 5 := hxl
  obtain ⟨x0, x1, x2, x3, x4, rfl⟩ := list5 hx5
  have g0 : DataW.trod enc Try.prog W base spare held n 3 [c0] = some x0 := f0
  have g1 : DataW.trod enc Try.prog W base spare held n 22 [c1] = some x1 := f1
  have g2 : DataW.trod enc Try.prog W base spare held n 3 [c2] = some x2 := f2
  have g3 : DataW.trod enc Try.prog W base spare held n 3 [c3] = some x3 := f3
  have g4 : DataW.trod enc Try.prog W base spare held n 3 [c4] = some x4 := f4
  obtain ⟨z0, e0, -, w0⟩ := DataW.trod_int Try.underlying3 g0
  obtain ⟨z2, e2, -, w2⟩ := DataW.trod_int Try.underlying3 g2
  obtain ⟨z3, e3, -, w3⟩ := DataW.trod_int Try.underlying3 g3
  obtain ⟨z4, e4, -, w4⟩ := DataW.trod_int Try.underlying3 g4
  simp at e0 e2 e3 e4
  subst e0 e2 e3 e4
  obtain ⟨A, m, c, zs, rfl, hI⟩ := isat_open g1
  exact ⟨_, _, _, _, _, _, _, zs, rfl, hI, (rng_i64 w4).2⟩
theorem entry_open {cs : List Value} {n : Nat} {y : DataW H × List MemPlace} (h : DataW.trod enc Try.prog W base spare held n 34 cs = some y) (hl : cs.length = 9) :
    ∃ e : En, cs = e.vals ∧ e.gen < 18446744073709551616 ∧ e.pos < 18446744073709551616 := by
  obtain ⟨a0, a1, a2, a3, a4, a5, a6, a7, a8, rfl⟩ := list9 hl
  have k3 : Try.prog.cellsOf 3 = 1 := by kernel_rfl
  have k4 : Try.prog.cellsOf 4 = 1 := by kernel_rfl
  have k9 : Try.prog.cellsOf 9 = 1 := by kernel_rfl
  have k28 : Try.prog.cellsOf 28 = 1 := by kernel_rfl
  have k30 : Try.prog.cellsOf 30 = 2 := by kernel_rfl
  have k32 : Try.prog.cellsOf 32 = 7 := by kernel_rfl
  obtain ⟨xs, n1, _, _, _, hxl, hfl⟩ := DataW.trod_struct Try.underlying34 h
  obtain ⟨x0, x1, x2, rfl⟩ : ∃ a b c, xs = [a, b, c] := by
    have : xs.length = 3 := hxl
    match xs, this with
    | [a, b, c], _ => exact ⟨a, b, c, rfl⟩
  have f0 := hfl 0 _ rfl
  have f1 := hfl 1 _ rfl
  have f2 := hfl 2 _ rfl
  change DataW.trod _ _ _ _ _ _ _ 3 (List.take (Try.prog.cellsOf 3) _) = _ at f0
  change DataW.trod _ _ _ _ _ _ _ 4 (List.take (Try.prog.cellsOf 4) _) = _ at f1
  change DataW.trod _ _ _ _ _ _ _ 32 (List.take (Try.prog.cellsOf 32) _) = _ at f2
  rw [k3] at f0
  rw [k4] at f1
  rw [k32] at f2
  have g0 : DataW.trod enc Try.prog W base spare held n1 3 [a0] = some x0 := f0
  have g1 : DataW.trod enc Try.prog W base spare held n1 4 [a1] = some x1 := f1
  have g2 : DataW.trod enc Try.prog W base spare held n1 32 [a2, a3, a4, a5, a6, a7, a8] = some x2 := f2
  obtain ⟨ys, n2, _, _, _, hyl, hgl⟩ := DataW.trod_struct Try.underlying32 g2
  obtain ⟨y0, y1, y2, y3, y4, y5, rfl⟩ : ∃ a b c d e f, ys = [a, b, c, d, e, f] := by
    have : ys.length = 6 := hyl
    match ys, this with
    | [a, b, c, d, e, f], _ => exact ⟨a, b, c, d, e, f, rfl⟩
  have p0 := hgl 0 _ rfl
  have p1 := hgl 1 _ rfl
  have p2 := hgl 2 _ rfl
  have p3 := hgl 3 _ rfl
  have p4 := hgl 4 _ rfl
  have p5 := hgl 5 _ rfl
  change DataW.trod _ _ _ _ _ _ _ 3 (List.take (Try.prog.cellsOf 3) _) = _ at p0
  change DataW.trod _ _ _ _ _ _ _ 3 (List.take (Try.prog.cellsOf 3) _) = _ at p1
  change DataW.trod _ _ _ _ _ _ _ 30 (List.take (Try.prog.cellsOf 30) _) = _ at p2
  change DataW.trod _ _ _ _ _ _ _ 3 (List.take (Try.prog.cellsOf 3) _) = _ at p3
  change DataW.trod _ _ _ _ _ _ _ 9 (List.take (Try.prog.cellsOf 9) _) = _ at p4
  change DataW.trod _ _ _ _ _ _ _ 28 (List.take (Try.prog.cellsOf 28) _) = _ at p5
  rw [k3] at p0 p1 p3
  rw [k30] at p2
  rw [k9] at p4
  rw [k28] at p5
  have q0 : DataW.trod enc Try.prog W base spare held n2 3 [a2] = some y0 := p0
  have q1 : DataW.trod enc Try.prog W base spare held n2 3 [a3] = some y1 := p1
  have q2 : DataW.trod enc Try.prog W base spare held n2 30 [a4, a5] = some y2 := p2
  have q3 : DataW.trod enc Try.prog W base spare held n2 3 [a6] = some y3 := p3
  have q4 : DataW.trod enc Try.prog W base spare held n2 9 [a7] = some y4 := p4
  have q5 : DataW.trod enc Try.prog W base spare held n2 28 [a8] = some y5 := p5
  obtain ⟨us, n3, _, _, _, hul, hul2⟩ := DataW.trod_struct Try.underlying30 q2
  obtain ⟨u0, u1, rfl⟩ : ∃ a b, us = [a, b] := by
    have : us.length = 2 := hul
    match us, this with
    | [a, b], _ => exact ⟨a, b, rfl⟩
  have r0 := hul2 0 _ rfl
  have r1 := hul2 1 _ rfl
  change DataW.trod _ _ _ _ _ _ _ 3 (List.take (Try.prog.cellsOf 3) _) = _ at r0
  change DataW.trod _ _ _ _ _ _ _ 28 (List.take (Try.prog.cellsOf 28) _) = _ at r1
  rw [k3] at r0
  rw [k28] at r1
  have s0 : DataW.trod enc Try.prog W base spare held n3 3 [a4] = some u0 := r0
  have s1 : DataW.trod enc Try.prog W base spare held n3 28 [a5] = some u1 := r1
  obtain ⟨z0, e0, -, w0⟩ := DataW.trod_int Try.underlying3 g0
  obtain ⟨z1, e1, -⟩ := DataW.trod_bool Try.underlying4 g1
  obtain ⟨z2, e2, -, w2⟩ := DataW.trod_int Try.underlying3 q0
  obtain ⟨z3, e3, -, w3⟩ := DataW.trod_int Try.underlying3 q1
  obtain ⟨z4, e4, -, w4⟩ := DataW.trod_int Try.underlying3 s0
  obtain ⟨z5, e5, -, w5⟩ := DataW.trod_int Try.underlying28 s1
  obtain ⟨z6, e6, -, w6⟩ := DataW.trod_int Try.underlying3 q3
  obtain ⟨z7, e7, -, w7⟩ := DataW.trod_string Try.underlying9 q4
  obtain ⟨z8, e8, -, w8⟩ := DataW.trod_int Try.underlying28 q5
  simp at e0 e1 e2 e3 e4 e5 e6 e7 e8
  subst e0 e1 e2 e3 e4 e5 e6 e7 e8
  obtain ⟨g, rfl, hg⟩ := nat_of_u64 w5
  obtain ⟨ps, rfl, hp⟩ := nat_of_u64 w8
  exact ⟨⟨z0, z1, z2, z3, z4, g, z6, z7, ps⟩, rfl, hg, hp⟩
theorem entries_open {v : Value} {d : DataW H} {p : List MemPlace} (hv : Value.okWide Try.prog W r b0 25 v) (h : DataW.Trod enc Try.prog W base spare held 25 v d p) :
    ∃ E m cap es, v = .slice E m cap ∧ EnsAt W E m cap es := by
  obtain ⟨E, m, cap, rfl⟩ := okWide_slice Try.underlying25 hv
  obtain ⟨fuel, hf⟩ := h
  have hC : Try.prog.cellsOf 34 = 9 := by kernel_rfl
  rcases open_slice Try.underlying25 hf with ⟨hcs, _⟩ | ⟨a, len, cap', k, n, D, Pl, hcs, hb, hl, hm, hmm, hx, hi⟩
  · simp [Value.cells] at hcs
    obtain ⟨rfl, rfl, rfl⟩ := hcs
    exact ⟨_, _, _, [], rfl, ensat_nil _⟩
  · simp [Value.cells] at hcs
    obtain ⟨rfl, rfl, rfl⟩ := hcs
    have hk : m ≤ k := by rw [hmm]; split <;> omega
    have hel : ∀ i, i < m → ∃ e : En, (e.gen < 18446744073709551616 ∧ e.pos < 18446744073709551616) ∧ ∀ j v, e.vals[j]? = some v → W.cell? (a.add (i * 9 + j)) = some v := by
      intro i him
      obtain ⟨cs', hc, ht⟩ := hi i (by omega)
      rw [hC] at hc
      obtain ⟨_, hlen, hat⟩ := World.cells?_some hc
      obtain ⟨e, he, hg, hp⟩ := entry_open ht hlen
      subst he
      refine ⟨e, ⟨hg, hp⟩, fun j v hv => ?_⟩
      have hj : j < 9 := (List.getElem?_eq_some_iff.1 hv).1
      rw [← Go.Deep.add_add, hat j hj, hv]
    have : Inhabited En := ⟨enZero⟩
    obtain ⟨f, hf⟩ := choose_lt hel
    refine ⟨_, _, _, (List.range m).map f, rfl, by simp, hl, by simpa [maxLen] using hm, ?_, fun h0 => ?_⟩
    · intro e he
      obtain ⟨i, hi2, rfl⟩ := List.mem_map.1 he
      exact (hf i (List.mem_range.1 hi2)).1
    · obtain ⟨b, off, spot⟩ := a
      have hs : spot = none := by
        have := spot_none ((hf 0 h0).2 0 _ rfl)
        simpa [Addr.add] using this
      subst hs
      refine ⟨b, off, rfl, fun i hi2 j v hv => ?_⟩
      have e : ((List.range m).map f).getD i enZero = f i := by simp [hi2]
      rw [e] at hv
      have := (hf i hi2).2 j v hv
      rwa [add_none] at this
end
end Go.Proofs.Ytgfingdopelinaa
