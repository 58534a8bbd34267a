/- contracts of mem's New, Trap, Peek. -/
import Derived.Test.YtjmooohhndjmiaaMemB
import Derived.Deep.OwnRows
namespace Go.Proofs.Ytjmooohhndjmiaa
open Go.RowKit Go.Deep

theorem info_u64 : (Try.prog.info? 40).map (fun i => (i.zero, i.size, i.bytes)) = some (some (.int .u64 0), 1, 8) := by kernel_rfl
theorem info_bool : (Try.prog.info? 4).map (fun i => (i.zero, i.size, i.bytes)) = some (some (.bool false), 1, 1) := by kernel_rfl
theorem made_words (n : Nat) : (madeCells #[Value.int .u64 0] n).toList = wordVals (List.replicate n 0) := by
  apply List.ext_getElem
  · simp [wordVals, madeCells]
  · intro i h1 h2
    simp [wordVals, madeCells, Nat.mod_one]
theorem made_bools (n : Nat) : (madeCells #[Value.bool false] n).toList = List.replicate n (.bool false) := by
  apply List.ext_getElem
  · simp [madeCells]
  · intro i h1 h2
    simp [madeCells, Nat.mod_one]

theorem blk_new (W : World) (t : TypeId) (cs : Array Value) (l : List Value) (h : cs.toList = l) : Blk (W.alloc (.cells cs t)) W.heap.size t l := by
  subst h
  have := Blk.new W t cs.toList
  simpa using this
theorem new_mem1 (n : Nat) (w : World) (h1 : 1 ≤ n) (h2 : n ≤ 65536) : MemAt (((w.alloc (Obj.cells (madeCells #[Value.int IntKind.u64 0] n) 40)).alloc (Obj.cells (madeCells #[Value.bool false] n) 4)).alloc
    (Obj.cells #[Value.slice (some ⟨w.heap.size, 0, none⟩) n n, Value.slice (some ⟨w.heap.size + 1, 0, none⟩) n n, .int .i64 0, .int .i64 0, .int .i64 0, .int .i64 0, .int .i64 0, .int .i64 0, .int .i64 (-1), .bool false] 73)).drew
    (w.heap.size + 1 + 1) w.heap.size (w.heap.size + 1) (List.replicate n 0) := by
  have b1 : Blk (w.alloc (Obj.cells (madeCells #[Value.int IntKind.u64 0] n) 40)) w.heap.size 40 (wordVals (List.replicate n 0)) := blk_new w _ _ _ (made_words n)
  have b2 := blk_new (w.alloc (Obj.cells (madeCells #[Value.int IntKind.u64 0] n) 40)) 4 _ _ (made_bools n)
  have b3 := blk_new ((w.alloc (Obj.cells (madeCells #[Value.int IntKind.u64 0] n) 40)).alloc (Obj.cells (madeCells #[Value.bool false] n) 4)) 73 #[Value.slice (some ⟨w.heap.size, 0, none⟩) n n, Value.slice (some ⟨w.heap.size + 1, 0, none⟩) n n, .int .i64 0, .int .i64 0, .int .i64 0, .int .i64 0, .int .i64 0, .int .i64 0, .int .i64 (-1), .bool false] _ rfl
  simp only [World.size_alloc] at b2 b3
  exact ⟨⟨_, _, _, _, _, _, by rw [List.length_replicate]; exact b3⟩, (b1.alloc _).alloc _, by rw [List.length_replicate]; exact b2.alloc _, by omega, by omega, by omega, by rw [List.length_replicate]; omega, by rw [List.length_replicate]; omega, fun x hx => by rw [List.eq_of_mem_replicate hx]; omega⟩
theorem new_mem2 (n : Nat) (w : World) (h1 : 1 ≤ n) (h2 : n ≤ 65536) : MemAt (((w.alloc (Obj.cells (madeCells #[Value.bool false] n) 4)).alloc (Obj.cells (madeCells #[Value.int IntKind.u64 0] n) 40)).alloc
    (Obj.cells #[Value.slice (some ⟨w.heap.size + 1, 0, none⟩) n n, Value.slice (some ⟨w.heap.size, 0, none⟩) n n, .int .i64 0, .int .i64 0, .int .i64 0, .int .i64 0, .int .i64 0, .int .i64 0, .int .i64 (-1), .bool false] 73)).drew
    (w.heap.size + 1 + 1) (w.heap.size + 1) w.heap.size (List.replicate n 0) := by
  have b1 := blk_new w 4 _ _ (made_bools n)
  have b2 := blk_new (w.alloc (Obj.cells (madeCells #[Value.bool false] n) 4)) 40 _ _ (made_words n)
  have b3 := blk_new ((w.alloc (Obj.cells (madeCells #[Value.bool false] n) 4)).alloc (Obj.cells (madeCells #[Value.int IntKind.u64 0] n) 40)) 73 #[Value.slice (some ⟨w.heap.size + 1, 0, none⟩) n n, Value.slice (some ⟨w.heap.size, 0, none⟩) n n, .int .i64 0, .int .i64 0, .int .i64 0, .int .i64 0, .int .i64 0, .int .i64 0, .int .i64 (-1), .bool false] _ rfl
  simp only [World.size_alloc] at b2 b3
  exact ⟨⟨_, _, _, _, _, _, by rw [List.length_replicate]; exact b3⟩, b2.alloc _, by rw [List.length_replicate]; exact (b1.alloc _).alloc _, by omega, by omega, by omega, by rw [List.length_replicate]; omega, by rw [List.length_replicate]; omega, fun x hx => by rw [List.eq_of_mem_replicate hx]; omega⟩

theorem new_calls (n : Nat) (w : World) (h1 : 1 ≤ n) (h2 : n ≤ 65536) :
    Calls Try.prog 6 #[.int .i64 n] w fun e w' => ∃ b bw bb : Nat, e = .returned (.tuple #[.pointer (some ⟨b, 0, none⟩), .int .i64 0]) ∧ MemAt w' b bw bb (List.replicate n 0) ∧ w.heap.size ≤ b ∧ w.heap.size ≤ bw ∧ w.heap.size ≤ bb ∧ Below w.heap.size w w' := by
  have mk1 : ∀ W : World, (Instr.makeSlice 30 (.int .i64 (n : Int)) (.int .i64 (n : Int))).run Try.prog W = .ok (.slice (some ⟨W.heap.size, 0, none⟩) n n) (W.alloc (.cells (madeCells #[.int .u64 0] n) 40)) :=
    fun W => run_make_row' 30 40 (.int .u64 0) 8 Try.underlying30 info_u64 rfl .i64 .i64 n (by omega) (by omega) W
  have mk2 : ∀ W : World, (Instr.makeSlice 31 (.int .i64 (n : Int)) (.int .i64 (n : Int))).run Try.prog W = .ok (.slice (some ⟨W.heap.size, 0, none⟩) n n) (W.alloc (.cells (madeCells #[.bool false] n) 4)) :=
    fun W => run_make_row' 31 4 (.bool false) 1 Try.underlying31 info_bool rfl .i64 .i64 n (by omega) (by omega) W
  have g1 : decide ((n : Int) < 1) = false := by simp; omega
  have g2 : decide ((65536 : Int) < (n : Int)) = false := by simp; omega
  have H1 := Lib.hid h1; have H2 := Lib.hid h2
  clear h1 h2
  go_enter Try.func6, Try.ntmps6
  go_wp2
  go_region
  all_goals go_wp2
  all_goals go_ret2
  · refine ⟨w.heap.size + 1 + 1, w.heap.size, w.heap.size + 1, rfl, ?_, by omega, by omega, by omega, ?_⟩
    · exact new_mem1 n w H1.out H2.out
    · exact (((Below.refl _ _).alloc (Nat.le_refl _) _ |>.alloc (by simp) _).alloc (by simp; omega) _).drew
  · refine ⟨w.heap.size + 1 + 1, w.heap.size + 1, w.heap.size, rfl, ?_, by omega, by omega, by omega, ?_⟩
    · exact new_mem2 n w H1.out H2.out
    · exact (((Below.refl _ _).alloc (Nat.le_refl _) _ |>.alloc (by simp) _).alloc (by simp; omega) _).drew
end Go.Proofs.Ytjmooohhndjmiaa
