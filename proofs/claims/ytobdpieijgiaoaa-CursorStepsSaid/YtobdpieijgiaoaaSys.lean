/- a memory, a cursor and operations side by side: what each call leaves of them. -/
import Derived.Test.YtobdpieijgiaoaaCurE
import Derived.LoopN
namespace Go.Proofs.Ytobdpieijgiaoaa
open Go.RowKit Go.Deep

/-- since w0: a cursor's variable at c0, a memory at b, and all that was there ahead is as it was. -/
structure Sys (w0 w : World) (c0 : Nat) (A S : Int) (b bw bb : Nat) (ws : List Nat) : Prop where
  below : Below w0.heap.size w0 w
  box : Blk w c0 23 [.int .i64 A, .int .i64 S]
  mem : MemAt w b bw bb ws
  g0 : w0.heap.size ≤ c0
  g1 : w0.heap.size ≤ b
  g2 : w0.heap.size ≤ bw
  g3 : w0.heap.size ≤ bb
  n1 : c0 ≠ b
  n2 : c0 ≠ bw
  n3 : c0 ≠ bb
structure Apart (c0 b bw bb bo bwd : Nat) : Prop where
  n0 : bo ≠ c0
  n1 : bo ≠ b
  n2 : bo ≠ bw
  n3 : bo ≠ bb
  m0 : bwd ≠ c0
  m1 : bwd ≠ b
  m2 : bwd ≠ bw
  m3 : bwd ≠ bb
  nn : bo ≠ bwd
theorem Sys.keep {w0 w w' : World} {c0 : Nat} {A S : Int} {b bw bb : Nat} {ws : List Nat} (h : Sys w0 w c0 A S b bw bb ws) (hb : Below w.heap.size w w') : Sys w0 w' c0 A S b bw bb ws :=
  ⟨bseq h.below hb, h.box.chg (chg_of_below (fun _ => False) hb) (fun h => h), h.mem.below hb, h.g0, h.g1, h.g2, h.g3, h.n1, h.n2, h.n3⟩
theorem Sys.alloc {w0 w : World} {c0 : Nat} {A S : Int} {b bw bb : Nat} {ws : List Nat} (h : Sys w0 w c0 A S b bw bb ws) (o : Obj) : Sys w0 (w.alloc o) c0 A S b bw bb ws := h.keep (bnew (Below.refl _ _) o)
theorem Sys.drew {w0 w : World} {c0 : Nat} {A S : Int} {b bw bb : Nat} {ws : List Nat} (h : Sys w0 w c0 A S b bw bb ws) : Sys w0 w.drew c0 A S b bw bb ws := h.keep (Below.refl _ _).drew
theorem Sys.set {w0 w w' : World} {c0 : Nat} {A S : Int} {b bw bb : Nat} {ws ws' : List Nat} (h : Sys w0 w c0 A S b bw bb ws) {T : Nat → Prop} (hc : Chg T w w') (hT : ∀ j, T j → w0.heap.size ≤ j ∧ j ≠ c0) (hm : MemAt w' b bw bb ws') : Sys w0 w' c0 A S b bw bb ws' :=
  ⟨Chg.below h.below hc h.below.size (fun k hk => (hT k hk).1), h.box.chg hc (fun t => (hT _ t).2 rfl), hm, h.g0, h.g1, h.g2, h.g3, h.n1, h.n2, h.n3⟩
theorem Sys.lts {w0 w : World} {c0 : Nat} {A S : Int} {b bw bb : Nat} {ws : List Nat} (h : Sys w0 w c0 A S b bw bb ws) : c0 < w.heap.size ∧ b < w.heap.size ∧ bw < w.heap.size ∧ bb < w.heap.size := by
  obtain ⟨l1, l2, l3⟩ := h.mem.lt
  exact ⟨h.box.lt, l1, l2, l3⟩
theorem OpAt.keep {w w' : World} {bo bwd : Nat} {o : NOp} (h : OpAt w bo bwd o) (hb : Below w.heap.size w w') : OpAt w' bo bwd o :=
  ⟨h.1.chg (chg_of_below (fun _ => False) hb) (fun h => h), h.2.chg (chg_of_below (fun _ => False) hb) (fun h => h)⟩
theorem OpAt.chg {w w' : World} {bo bwd : Nat} {o : NOp} (h : OpAt w bo bwd o) {T : Nat → Prop} (hc : Chg T w w') (h1 : ¬ T bo) (h2 : ¬ T bwd) : OpAt w' bo bwd o := ⟨h.1.chg hc h1, h.2.chg hc h2⟩
theorem OpAt.lt {w : World} {bo bwd : Nat} {o : NOp} (h : OpAt w bo bwd o) : bo < w.heap.size ∧ bwd < w.heap.size := ⟨h.1.lt, h.2.lt⟩

/-- a step of an operation. -/
theorem s_step {w0 w : World} {c0 : Nat} {A S : Int} {b bw bb : Nat} {ws : List Nat} {bo bwd : Nat} {o : NOp} (h : Sys w0 w c0 A S b bw bb ws) (ho : OpAt w bo bwd o) (hk : NOk o ws.length) (hap : Apart c0 b bw bb bo bwd) (hge : w0.heap.size ≤ bo) :
    Calls Try.prog 13 #[.pointer (some ⟨bo, 0, none⟩), .pointer (some ⟨b, 0, none⟩)] w fun e w' => e = .returned (.bool (decide ((stepN o ws).1.pc = 3))) ∧
      (OpAt w' bo bwd (stepN o ws).1 ∧ Sys w0 w' c0 A S b bw bb (stepN o ws).2 ∧ Chg (fun j => j = b ∨ j = bw ∨ j = bo) w w') :=
  (step_calls bo bwd o b bw bb ws w ho h.mem hk hap.n1 hap.n2 hap.n3 hap.m1 hap.m2 hap.nn).mono fun e w' ⟨g1, g2, g3, g4⟩ =>
    ⟨g1, g2, h.set g4 (fun j hj => by
      rcases hj with rfl | rfl | rfl
      · exact ⟨h.g1, h.n1.symm⟩
      · exact ⟨h.g2, h.n2.symm⟩
      · exact ⟨hge, hap.n0⟩) g3, g4⟩
theorem s_done {w : World} {bo bwd : Nat} {o : NOp} (ho : OpAt w bo bwd o) :
    Calls Try.prog 11 #[.pointer (some ⟨bo, 0, none⟩)] w fun e w' => e = .returned (.bool (decide (o.pc = 3))) ∧ w = w' :=
  done_calls bo o.a o.s o.m bwd o.words.length o.pc o.k o.p o.g o.code w ho.1
theorem s_at {w : World} {bo bwd : Nat} {o : NOp} (ho : OpAt w bo bwd o) :
    Calls Try.prog 12 #[.pointer (some ⟨bo, 0, none⟩)] w fun e w' => e = .returned (.int .i64 o.pc) ∧ w = w' :=
  at_calls bo o.a o.s o.m bwd o.words.length o.pc o.k o.p o.g o.code w ho.1
theorem s_result {w : World} {bo bwd : Nat} {o : NOp} (ho : OpAt w bo bwd o) :
    Calls Try.prog 8 #[.pointer (some ⟨bo, 0, none⟩)] w fun e w' => e = .returned (.tuple #[.int .i64 (if o.pc = 3 then o.code else 0 : Nat), .int .u64 (if o.pc = 3 then o.p else 0 : Nat)]) ∧ Below w.heap.size w w' :=
  result_calls bo o.a o.s o.m bwd o.words.length o.pc o.k o.p o.g o.code w ho.1

theorem begun_op {w w' : World} {a s m : Nat} {words : List Nat} {e : Ending} (h : Begun w w' a s m (intVals (words.map fun x : Nat => (x : Int))) words.length true e) :
    ∃ bo bwd, e = .returned (.pointer (some ⟨bo, 0, none⟩)) ∧ OpAt w' bo bwd ⟨a, s, m, words, 0, 0, 0, 0, 0⟩ ∧ w.heap.size ≤ bo ∧ w.heap.size ≤ bwd ∧ bo ≠ bwd ∧ Below w.heap.size w w' := by
  obtain ⟨bo, bwd, h1, h2, h3, h4, h5, h6, h7⟩ := h
  exact ⟨bo, bwd, h1, ⟨h2, h3⟩, h4, h5, h6, h7⟩
theorem apart_new {w0 w : World} {c0 : Nat} {A S : Int} {b bw bb : Nat} {ws : List Nat} {bo bwd : Nat} (h : Sys w0 w c0 A S b bw bb ws) (h1 : w.heap.size ≤ bo) (h2 : w.heap.size ≤ bwd) (h3 : bo ≠ bwd) : Apart c0 b bw bb bo bwd ∧ w0.heap.size ≤ bo := by
  obtain ⟨l0, l1, l2, l3⟩ := h.lts
  exact ⟨⟨by omega, by omega, by omega, by omega, by omega, by omega, by omega, by omega, h3⟩, by have := h.below.size; omega⟩
/-- making an operation that may be. -/
theorem s_claim {w0 w : World} {c0 : Nat} {a s m : Nat} {b bw bb : Nat} {ws : List Nat} {words : List Nat} (sp : Option Addr) (sCap : Nat) (h : Sys w0 w c0 a s b bw bb ws) (hr : rightC a s = true) (hm : 1 ≤ m ∧ m ≤ s) (hl : words.length ≤ 64)
    (hpos : 0 < words.length → ∃ ad, sp = some ad ∧ ∀ j v, (intVals (words.map fun x : Nat => (x : Int)))[j]? = some v → w.cell? (ad.add j) = some v) :
    Calls Try.prog 9 #[.agg #[.int .i64 a, .int .i64 s], .int .i64 m, .slice sp words.length sCap] w fun e w' => ∃ bo bwd, e = .returned (.pointer (some ⟨bo, 0, none⟩)) ∧
      (OpAt w' bo bwd ⟨a, s, m, words, 0, 0, 0, 0, 0⟩ ∧ Sys w0 w' c0 a s b bw bb ws ∧ Apart c0 b bw bb bo bwd ∧ w0.heap.size ≤ bo ∧ w.heap.size ≤ bo ∧ w.heap.size ≤ bwd ∧ Below w.heap.size w w') := by
  have hc := claim_calls a s m sp sCap (words.map fun x : Nat => (x : Int)) w (by rw [List.length_map]; omega) (by rw [List.length_map]; exact hpos)
  have hok : (okB a s m (words.map fun x : Nat => (x : Int)).length && decide (1 ≤ (m : Int))) = true := by
    unfold okB
    rw [hr, List.length_map]
    simp
    omega
  rw [hok, List.length_map] at hc
  refine hc.mono fun e w' hg => ?_
  obtain ⟨bo, bwd, h1, h2, h3, h4, h5, h6⟩ := begun_op hg
  obtain ⟨hap, hge⟩ := apart_new h h3 h4 h5
  exact ⟨bo, bwd, h1, h2, h.keep h6, hap, hge, h3, h4, h6⟩
theorem s_tell {w0 w : World} {c0 : Nat} {a s : Nat} {b bw bb : Nat} {ws : List Nat} (h : Sys w0 w c0 a s b bw bb ws) (hr : rightC a s = true) :
    Calls Try.prog 15 #[.agg #[.int .i64 a, .int .i64 s]] w fun e w' => ∃ bo bwd, e = .returned (.pointer (some ⟨bo, 0, none⟩)) ∧
      (OpAt w' bo bwd ⟨a, s, 0, [], 0, 0, 0, 0, 0⟩ ∧ Sys w0 w' c0 a s b bw bb ws ∧ Apart c0 b bw bb bo bwd ∧ w0.heap.size ≤ bo ∧ w.heap.size ≤ bo ∧ w.heap.size ≤ bwd ∧ Below w.heap.size w w') := by
  have hc := tell_calls a s w
  have hok : okB a s 0 0 = true := by
    unfold okB
    rw [hr]
    simp
  rw [hok] at hc
  refine hc.mono fun e w' hg => ?_
  obtain ⟨bo, bwd, h1, h2, h3, h4, h5, h6⟩ := begun_op (m := 0) (words := []) hg
  obtain ⟨hap, hge⟩ := apart_new h h3 h4 h5
  exact ⟨bo, bwd, h1, h2, h.keep h6, hap, hge, h3, h4, h6⟩
theorem s_setup {w0 w : World} {c0 : Nat} {a s x : Nat} {b bw bb : Nat} {ws : List Nat} (h : Sys w0 w c0 a s b bw bb ws) (hr : rightC a s = true) (ha : a < ws.length) (hx : x < 4611686018427387904) :
    Calls Try.prog 10 #[.agg #[.int .i64 a, .int .i64 s], .pointer (some ⟨b, 0, none⟩), .int .u64 x] w fun e w' => e = .returned (.int .i64 0) ∧ Sys w0 w' c0 a s b bw bb (ws.set a x) :=
  (setup_calls a s x b bw bb ws w h.mem hr ha hx).mono fun e w' ⟨g1, g2, g3⟩ => ⟨g1, h.set g3 (fun j hj => by
      rcases hj with rfl | rfl
      · exact ⟨h.g1, h.n1.symm⟩
      · exact ⟨h.g2, h.n2.symm⟩) g2⟩
theorem s_load {w0 w : World} {c0 : Nat} {A S : Int} {x : Nat} {b bw bb : Nat} {ws : List Nat} (h : Sys w0 w c0 A S b bw bb ws) (hx : x < ws.length) :
    Calls Try.prog 31 #[.pointer (some ⟨b, 0, none⟩), .int .i64 x] w fun e w' => e = .returned (.int .u64 (ws.getD x 0 : Nat)) ∧ Sys w0 w' c0 A S b bw bb ws :=
  (load_calls b bw bb ws x w h.mem hx).mono fun e w' ⟨g1, g2, g3⟩ => ⟨g1, h.set g3 (fun j hj => by
      subst hj; exact ⟨h.g1, h.n1.symm⟩) g2⟩
end Go.Proofs.Ytobdpieijgiaoaa
