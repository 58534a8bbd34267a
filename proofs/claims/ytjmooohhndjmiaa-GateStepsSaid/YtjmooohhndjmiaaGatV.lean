/- a gate's variable, a memory and operations side by side: what each call leaves of them. -/
import Derived.Test.YtjmooohhndjmiaaGatU
import Derived.Test.YtjmooohhndjmiaaGatR
import Derived.Test.YtjmooohhndjmiaaGatA
import Derived.Test.YtjmooohhndjmiaaMisc
import Derived.Test.YtjmooohhndjmiaaPeek
namespace Go.Proofs.Ytjmooohhndjmiaa
open Go.RowKit Go.Deep
set_option linter.unusedVariables false

/-- since w0: a gate's variable at c0, a memory at b, and all that was there ahead is as it was. -/
structure GSys (w0 w : World) (c0 A M C b bw bb : Nat) (ws : List Nat) : Prop where
  below : Below w0.heap.size w0 w
  box : Blk w c0 25 [.int .i64 A, .int .i64 M, .int .i64 C]
  mem : MemAt w b bw bb ws
  g0 : w0.heap.size ≤ c0
  g1 : w0.heap.size ≤ b
  g2 : w0.heap.size ≤ bw
  g3 : w0.heap.size ≤ bb
  n1 : c0 ≠ b
  n2 : c0 ≠ bw
  n3 : c0 ≠ bb
structure GApart (w0 : World) (c0 b bw bb bo : Nat) : Prop where
  ge : w0.heap.size ≤ bo
  n0 : bo ≠ c0
  n1 : bo ≠ b
  n2 : bo ≠ bw
  n3 : bo ≠ bb
theorem GSys.keep {w0 w w' : World} {c0 A M C b bw bb : Nat} {ws : List Nat} (h : GSys w0 w c0 A M C b bw bb ws) (hb : Below w.heap.size w w') : GSys w0 w' c0 A M C b bw bb ws :=
  ⟨bseq h.below hb, h.box.chg (chg_of_below (fun _ => False) hb) (fun h => h), h.mem.below hb, h.g0, h.g1, h.g2, h.g3, h.n1, h.n2, h.n3⟩
theorem GSys.alloc {w0 w : World} {c0 A M C b bw bb : Nat} {ws : List Nat} (h : GSys w0 w c0 A M C b bw bb ws) (o : Obj) : GSys w0 (w.alloc o) c0 A M C b bw bb ws := h.keep (bnew (Below.refl _ _) o)
theorem GSys.drew {w0 w : World} {c0 A M C b bw bb : Nat} {ws : List Nat} (h : GSys w0 w c0 A M C b bw bb ws) : GSys w0 w.drew c0 A M C b bw bb ws := h.keep (Below.refl _ _).drew
theorem GSys.set {w0 w w' : World} {c0 A M C b bw bb : Nat} {ws ws' : List Nat} (h : GSys w0 w c0 A M C b bw bb ws) {T : Nat → Prop} (hc : Chg T w w') (hT : ∀ j, T j → w0.heap.size ≤ j ∧ j ≠ c0) (hm : MemAt w' b bw bb ws') : GSys w0 w' c0 A M C b bw bb ws' :=
  ⟨Chg.below h.below hc h.below.size (fun k hk => (hT k hk).1), h.box.chg hc (fun t => (hT _ t).2 rfl), hm, h.g0, h.g1, h.g2, h.g3, h.n1, h.n2, h.n3⟩
theorem GSys.lts {w0 w : World} {c0 A M C b bw bb : Nat} {ws : List Nat} (h : GSys w0 w c0 A M C b bw bb ws) : c0 < w.heap.size ∧ b < w.heap.size ∧ bw < w.heap.size ∧ bb < w.heap.size := by
  obtain ⟨l1, l2, l3⟩ := h.mem.lt
  exact ⟨h.box.lt, l1, l2, l3⟩
theorem gsys_new {w0 w w1 : World} {c0 n A M C b bw bb : Nat} (hb0 : Below w0.heap.size w0 w) (hg : w0.heap.size ≤ c0) (hbox : Blk w c0 25 [.int .i64 A, .int .i64 M, .int .i64 C]) (hm : MemAt w1 b bw bb (List.replicate n 0)) (h1 : w.heap.size ≤ b) (h2 : w.heap.size ≤ bw) (h3 : w.heap.size ≤ bb) (hb : Below w.heap.size w w1) :
    GSys w0 w1 c0 A M C b bw bb (List.replicate n 0) := by
  have := hb0.size
  have := hbox.lt
  exact ⟨bseq hb0 hb, hbox.chg (chg_of_below (fun _ => False) hb) (fun h => h), hm, hg, by omega, by omega, by omega, by omega, by omega, by omega⟩
theorem GSys.mem2 {w0 w : World} {c0 A M C b bw bb : Nat} {ws : List Nat} (h : GSys w0 w c0 A M C b bw bb ws) : ∀ j, (j = b ∨ j = bw) → w0.heap.size ≤ j ∧ j ≠ c0 := fun j hj => by
  rcases hj with rfl | rfl
  · exact ⟨h.g1, h.n1.symm⟩
  · exact ⟨h.g2, h.n2.symm⟩
theorem GSys.mem3 {w0 w : World} {c0 A M C b bw bb bo : Nat} {ws : List Nat} (h : GSys w0 w c0 A M C b bw bb ws) (ha : GApart w0 c0 b bw bb bo) : ∀ j, (j = b ∨ j = bw ∨ j = bo) → w0.heap.size ≤ j ∧ j ≠ c0 := fun j hj => by
  rcases hj with rfl | rfl | rfl
  · exact ⟨h.g1, h.n1.symm⟩
  · exact ⟨h.g2, h.n2.symm⟩
  · exact ⟨ha.ge, ha.n0⟩
theorem g_setup {w0 w : World} {c0 A M C n b bw bb : Nat} (h : GSys w0 w c0 A M C b bw bb (List.replicate n 0)) (hg : GOk A M C) (ha : A + 1 + M ≤ n) (hc : C < n) :
    Calls Try.prog 8 #[.agg #[.int .i64 A, .int .i64 M, .int .i64 C], .pointer (some ⟨b, 0, none⟩)] w fun e w' => e = .returned (.int .i64 0) ∧ GSys w0 w' c0 A M C b bw bb (List.replicate n 0) :=
  (gsetup_calls A M C n b bw bb w h.mem hg ha hc).mono fun e w' ⟨g1, g2, g3⟩ => ⟨g1, h.set g3 h.mem2 g2⟩
theorem g_store {w0 w : World} {c0 A M C b bw bb : Nat} {ws : List Nat} (a x : Nat) (h : GSys w0 w c0 A M C b bw bb ws) (ha : a < ws.length) (hx : x < 18446744073709551616) :
    Calls Try.prog 10 #[.pointer (some ⟨b, 0, none⟩), .int .i64 a, .int .u64 x] w fun e w' => e = .returned (.tuple #[]) ∧ GSys w0 w' c0 A M C b bw bb (ws.set a x) ∧ Chg (fun k => k = b ∨ k = bw) w w' :=
  (store_calls b bw bb ws a x w h.mem ha hx).mono fun e w' ⟨g1, g2, g3⟩ => ⟨g1, h.set g3 h.mem2 g2, g3⟩
/-- an operation that was begun. -/
def GNew (w0 w : World) (c0 A M C b bw bb : Nat) (ws : List Nat) (kind k v : Nat) (e : Ending) (w' : World) : Prop :=
  ∃ bo, e = .returned (.pointer (some ⟨bo, 0, none⟩)) ∧ Blk w' bo 88 (GOp.cells A M C ⟨kind, k, 0, 0, v, 0⟩) ∧ GSys w0 w' c0 A M C b bw bb ws ∧ GApart w0 c0 b bw bb bo ∧ w.heap.size ≤ bo ∧ Below w.heap.size w w'
theorem GBeg.new {w0 w w' : World} {c0 A M C b bw bb : Nat} {ws : List Nat} {kind k v : Nat} {e : Ending} (h : GSys w0 w c0 A M C b bw bb ws) (hb : GBeg w A M C kind k v e w') : GNew w0 w c0 A M C b bw bb ws kind k v e w' := by
  obtain ⟨bo, h1, h2, h3, h4⟩ := hb
  obtain ⟨l0, l1, l2, l3⟩ := h.lts
  have := h.below.size
  exact ⟨bo, h1, h3, h.keep h4, ⟨by omega, by omega, by omega, by omega, by omega⟩, h2, h4⟩
theorem g_join {w0 w : World} {c0 A M C b bw bb : Nat} {ws : List Nat} (k : Nat) (h : GSys w0 w c0 A M C b bw bb ws) (hg : GOk A M C) (hk : k < M) :
    Calls Try.prog 20 #[.agg #[.int .i64 A, .int .i64 M, .int .i64 C], .int .i64 k] w fun e w' => GNew w0 w c0 A M C b bw bb ws 0 k 0 e w' :=
  (gjoin_calls A M C k w hg hk).mono fun _ _ hb => GBeg.new h hb
theorem g_leave {w0 w : World} {c0 A M C b bw bb : Nat} {ws : List Nat} (k : Nat) (h : GSys w0 w c0 A M C b bw bb ws) (hg : GOk A M C) (hk : k < M) :
    Calls Try.prog 28 #[.agg #[.int .i64 A, .int .i64 M, .int .i64 C], .int .i64 k] w fun e w' => GNew w0 w c0 A M C b bw bb ws 1 k 0 e w' :=
  (gleave_calls A M C k w hg hk).mono fun _ _ hb => GBeg.new h hb
theorem g_least {w0 w : World} {c0 A M C b bw bb : Nat} {ws : List Nat} (v : Nat) (h : GSys w0 w c0 A M C b bw bb ws) (hg : GOk A M C) :
    Calls Try.prog 22 #[.agg #[.int .i64 A, .int .i64 M, .int .i64 C], .int .u64 v] w fun e w' => GNew w0 w c0 A M C b bw bb ws 2 0 v e w' :=
  (gleast_calls A M C v w hg).mono fun _ _ hb => GBeg.new h hb
theorem g_ask {w0 w : World} {c0 A M C b bw bb : Nat} {ws : List Nat} (kind : Int) (k v : Nat) (h : GSys w0 w c0 A M C b bw bb ws) (hg : GOk A M C) (hk : k < M) :
    Calls Try.prog 9 #[.agg #[.int .i64 A, .int .i64 M, .int .i64 C], .agg #[.int .i64 kind, .int .i64 k, .int .u64 v]] w fun e w' => GNew w0 w c0 A M C b bw bb ws (if kind = 0 then 0 else if kind = 1 then 1 else 2) (if kind = 0 ∨ kind = 1 then k else 0) (if kind = 0 ∨ kind = 1 then 0 else v) e w' :=
  (gask_calls A M C k v kind w hg hk).mono fun _ _ hb => GBeg.new h hb
/-- an operation, alone. -/
theorem g_run {w0 w : World} {c0 A M C b bw bb bo : Nat} {ws : List Nat} {o o' : GOp} {ws' : List Nat} (N : Nat) (h : GSys w0 w c0 A M C b bw bb ws) (hb : Blk w bo 88 (o.cells A M C)) (ha : GApart w0 c0 b bw bb bo) (hg : GOk A M C) (hi : GIn M o) (hl : A + 1 + M ≤ ws.length ∧ C < ws.length)
    (hN : N ≤ 39) (hlt : ∀ j, j < N → (giter A M C j (o, ws)).1.pc ≠ 6) (he : giter A M C N (o, ws) = (o', ws')) (hend : o'.pc = 6) :
    Calls Try.prog 17 #[.pointer (some ⟨b, 0, none⟩), .pointer (some ⟨bo, 0, none⟩)] w fun e w' => e = .returned (.tuple #[.int .i64 (o'.code : Nat), .int .u64 (o'.v : Nat), .int .i64 (N : Nat)]) ∧ GSys w0 w' c0 A M C b bw bb ws' ∧ Chg (fun j => j = b ∨ j = bw ∨ j = bo) w w' := by
  have hr := grun_calls b bw bb bo A M C o ws w N hb h.mem hg hi hl ⟨ha.n1, ha.n2, ha.n3⟩ hN hlt (by rw [he]; exact hend)
  rw [he] at hr
  exact hr.mono fun e w' ⟨h1, h2, h3, h4⟩ => ⟨h1, h.set h4 (h.mem3 ha) h3, h4⟩
theorem g_step {w0 w : World} {c0 A M C b bw bb bo : Nat} {ws : List Nat} {o : GOp} (h : GSys w0 w c0 A M C b bw bb ws) (hb : Blk w bo 88 (o.cells A M C)) (ha : GApart w0 c0 b bw bb bo) (hg : GOk A M C) (hi : GIn M o) (hl : A + 1 + M ≤ ws.length ∧ C < ws.length) :
    Calls Try.prog 12 #[.pointer (some ⟨bo, 0, none⟩), .pointer (some ⟨b, 0, none⟩)] w fun e w' => e = .returned (.bool (decide ((gstep A M C o ws).1.pc = 6))) ∧ Blk w' bo 88 ((gstep A M C o ws).1.cells A M C) ∧ GSys w0 w' c0 A M C b bw bb (gstep A M C o ws).2 ∧ Chg (fun j => j = b ∨ j = bw ∨ j = bo) w w' :=
  (gop_step b bw bb bo A M C o ws w hb h.mem hg hi hl ⟨ha.n1, ha.n2, ha.n3⟩).mono fun e w' ⟨h1, h2, h3, h4⟩ => ⟨h1, h2, h.set h4 (h.mem3 ha) h3, h4⟩
theorem gin_new (M kind k v : Nat) (h1 : kind ≤ 2) (h2 : k < M) (h3 : v < 18446744073709551616) : GIn M ⟨kind, k, 0, 0, v, 0⟩ :=
  ⟨h1, fun _ => h2, ⟨Nat.zero_le _, fun _ => .inl rfl, fun _ => .inl rfl⟩, (by decide : (0 : Nat) < 18446744073709551616), h3⟩
end Go.Proofs.Ytjmooohhndjmiaa
