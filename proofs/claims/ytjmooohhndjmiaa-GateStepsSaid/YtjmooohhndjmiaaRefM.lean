/- the reference's memory (sluicewayref02): New, bad, Step. -/
import Derived.Test.YtjmooohhndjmiaaPeek
namespace Go.Proofs.Ytjmooohhndjmiaa
open Go.RowKit Go.Deep

/-- the reference's memory: its words' block, its marks' block. -/
structure RefAt (w : World) (gw gb : Nat) (ws : List Nat) : Prop where
  words : ∃ rest, Blk w gw 40 (wordVals ws ++ rest)
  marks : Blk w gb 4 (List.replicate ws.length (.bool false))
  ne : gw ≠ gb
  pos : 0 < ws.length
  most : ws.length ≤ 65536
  fit : ∀ x ∈ ws, x < 18446744073709551616
theorem RefAt.chg {S : Nat → Prop} {w w' : World} {gw gb : Nat} {ws : List Nat} (h : RefAt w gw gb ws) (hc : Chg S w w') (h1 : ¬ S gw) (h2 : ¬ S gb) : RefAt w' gw gb ws :=
  ⟨by obtain ⟨r, hb⟩ := h.words; exact ⟨r, hb.chg hc h1⟩, h.marks.chg hc h2, h.ne, h.pos, h.most, h.fit⟩
theorem RefAt.below {w w' : World} {gw gb : Nat} {ws : List Nat} (h : RefAt w gw gb ws) (hb : Below w.heap.size w w') : RefAt w' gw gb ws :=
  h.chg (chg_of_below (fun _ => False) hb) (fun h => h) (fun h => h)
theorem RefAt.word {w : World} {gw gb : Nat} {ws : List Nat} (h : RefAt w gw gb ws) (a : Nat) (ha : a < ws.length) : w.cell? ⟨gw, a, none⟩ = some (.int .u64 (ws.getD a 0 : Nat)) := by
  obtain ⟨r, hb⟩ := h.words
  rw [hb.cell a, List.getElem?_append_left (by simpa [wordVals] using ha)]
  simp [wordVals, List.getD, ha]
theorem RefAt.mark {w : World} {gw gb : Nat} {ws : List Nat} (h : RefAt w gw gb ws) (a : Nat) (ha : a < ws.length) : w.cell? ⟨gb, a, none⟩ = some (.bool false) := by
  rw [h.marks.cell a, List.getElem?_replicate, if_pos ha]
theorem RefAt.getD_lt {w : World} {gw gb : Nat} {ws : List Nat} (h : RefAt w gw gb ws) (a : Nat) : ws.getD a 0 < 18446744073709551616 := by
  rcases Nat.lt_or_ge a ws.length with ha | ha
  · have : ws.getD a 0 = ws[a] := by simp [List.getD, ha]
    rw [this]; exact h.fit _ (List.getElem_mem ha)
  · have : ws.getD a 0 = 0 := by simp [List.getD, List.getElem?_eq_none ha]
    omega
/-- a word of it is set. -/
theorem RefAt.set {w : World} {gw gb : Nat} {ws : List Nat} (h : RefAt w gw gb ws) (a v : Nat) (ha : a < ws.length) (hv : v < 18446744073709551616) : RefAt (w.setCell ⟨gw, a, none⟩ (.int .u64 (v : Nat))) gw gb (ws.set a v) := by
  obtain ⟨r, hb⟩ := h.words
  refine ⟨⟨r, ?_⟩, ?_, h.ne, by rw [List.length_set]; exact h.pos, by rw [List.length_set]; exact h.most, ?_⟩
  · have := hb.set a (.int .u64 (v : Nat))
    rw [List.set_append_left _ _ (by simpa [wordVals] using ha)] at this
    unfold wordVals at *
    rw [List.map_set]; exact this
  · rw [List.length_set]; exact h.marks.other _ _ h.ne.symm
  · intro x hx
    rcases List.mem_or_eq_of_mem_set hx with h' | h'
    · exact h.fit x h'
    · omega

theorem refnew_calls (n : Nat) (w : World) (h1 : 1 ≤ n) (h2 : n ≤ 65536) :
    Calls Try.prog 7 #[.int .i64 n] w fun e w' => ∃ gw gb : Nat, e = .returned (.tuple #[.agg #[.slice (some ⟨gw, 0, none⟩) n n, .slice (some ⟨gb, 0, none⟩) n n, .int .i64 0, .int .i64 0, .int .i64 0, .int .i64 0, .int .i64 0, .int .i64 0, .int .i64 (-1), .bool false], .int .i64 0]) ∧
      RefAt w' gw gb (List.replicate n 0) ∧ w.heap.size ≤ gw ∧ w.heap.size ≤ gb ∧ Below w.heap.size w w' := by
  have mk1 : ∀ W : World, (Instr.makeSlice 30 (.int .i64 (n : Int)) (.int .i64 (n : Int))).run Try.prog W = .ok (.slice (some ⟨W.heap.size, 0, none⟩) n n) (W.alloc (.cells (madeCells #[.int .u64 0] n) 40)) :=
    fun W => run_make_row' 30 40 (.int .u64 0) 8 Try.underlying30 info_u64 rfl .i64 .i64 n (by omega) (by omega) W
  have mk2 : ∀ W : World, (Instr.makeSlice 31 (.int .i64 (n : Int)) (.int .i64 (n : Int))).run Try.prog W = .ok (.slice (some ⟨W.heap.size, 0, none⟩) n n) (W.alloc (.cells (madeCells #[.bool false] n) 4)) :=
    fun W => run_make_row' 31 4 (.bool false) 1 Try.underlying31 info_bool rfl .i64 .i64 n (by omega) (by omega) W
  have g1 : decide ((n : Int) < 1) = false := by simp; omega
  have g2 : decide ((65536 : Int) < (n : Int)) = false := by simp; omega
  have H1 := Lib.hid h1; have H2 := Lib.hid h2
  clear h1 h2
  have key : ∀ (W : World) (gw gb : Nat), Blk W gw 40 (wordVals (List.replicate n 0)) → Blk W gb 4 (List.replicate n (.bool false)) → gw ≠ gb → RefAt W gw gb (List.replicate n 0) := fun W gw gb b1 b2 hne =>
    ⟨⟨[], by rw [List.append_nil]; exact b1⟩, by rw [List.length_replicate]; exact b2, hne, by rw [List.length_replicate]; exact H1.out, by rw [List.length_replicate]; exact H2.out, fun x hx => by rw [List.eq_of_mem_replicate hx]; omega⟩
  have KEY := Lib.hid key
  clear key
  go_enter Try.func7, Try.ntmps7
  go_wp2
  go_region
  all_goals go_wp2
  · refine bodyPost_ret (v := .tuple #[.agg #[.slice (some ⟨w.heap.size + 1, 0, none⟩) n n, .slice (some ⟨w.heap.size + 1 + 1, 0, none⟩) n n, .int .i64 0, .int .i64 0, .int .i64 0, .int .i64 0, .int .i64 0, .int .i64 0, .int .i64 (-1), .bool false], .int .i64 0]) (by simp [results, Try.results7, go_sem]) rfl ⟨w.heap.size + 1, w.heap.size + 1 + 1, rfl, KEY.out _ _ _ ?_ ?_ (by omega), by omega, by omega, ?_⟩
    · have b := blk_new (w.alloc (Obj.cells #[.slice (some ⟨w.heap.size + 1, 0, none⟩) n n, .slice (some ⟨w.heap.size + 1 + 1, 0, none⟩) n n, .int .i64 0, .int .i64 0, .int .i64 0, .int .i64 0, .int .i64 0, .int .i64 0, .int .i64 (-1), .bool false] 34)) 40 _ _ (made_words n)
      simp only [World.size_alloc] at b
      exact b.alloc _
    · have b := blk_new ((w.alloc (Obj.cells #[.slice (some ⟨w.heap.size + 1, 0, none⟩) n n, .slice (some ⟨w.heap.size + 1 + 1, 0, none⟩) n n, .int .i64 0, .int .i64 0, .int .i64 0, .int .i64 0, .int .i64 0, .int .i64 0, .int .i64 (-1), .bool false] 34)).alloc (Obj.cells (madeCells #[Value.int IntKind.u64 0] n) 40)) 4 _ _ (made_bools n)
      simp only [World.size_alloc] at b
      exact b
    · exact (((Below.refl _ _).alloc (Nat.le_refl _) _ |>.alloc (by simp) _).alloc (by simp; omega) _).drew
  · refine bodyPost_ret (v := .tuple #[.agg #[.slice (some ⟨w.heap.size + 1 + 1, 0, none⟩) n n, .slice (some ⟨w.heap.size + 1, 0, none⟩) n n, .int .i64 0, .int .i64 0, .int .i64 0, .int .i64 0, .int .i64 0, .int .i64 0, .int .i64 (-1), .bool false], .int .i64 0]) (by simp [results, Try.results7, go_sem]) rfl ⟨w.heap.size + 1 + 1, w.heap.size + 1, rfl, KEY.out _ _ _ ?_ ?_ (by omega), by omega, by omega, ?_⟩
    · have b := blk_new ((w.alloc (Obj.cells #[.slice (some ⟨w.heap.size + 1 + 1, 0, none⟩) n n, .slice (some ⟨w.heap.size + 1, 0, none⟩) n n, .int .i64 0, .int .i64 0, .int .i64 0, .int .i64 0, .int .i64 0, .int .i64 0, .int .i64 (-1), .bool false] 34)).alloc (Obj.cells (madeCells #[Value.bool false] n) 4)) 40 _ _ (made_words n)
      simp only [World.size_alloc] at b
      exact b
    · have b := blk_new (w.alloc (Obj.cells #[.slice (some ⟨w.heap.size + 1 + 1, 0, none⟩) n n, .slice (some ⟨w.heap.size + 1, 0, none⟩) n n, .int .i64 0, .int .i64 0, .int .i64 0, .int .i64 0, .int .i64 0, .int .i64 0, .int .i64 (-1), .bool false] 34)) 4 _ _ (made_bools n)
      simp only [World.size_alloc] at b
      exact b.alloc _
    · exact (((Below.refl _ _).alloc (Nat.le_refl _) _ |>.alloc (by simp) _).alloc (by simp; omega) _).drew

theorem refbad_calls (gw cw gb : Nat) (c0 c1 c2 c3 c4 c5 : Int) (ws : List Nat) (a : Nat) (w : World) (hm : RefAt w gw gb ws) (ha : a < ws.length) :
    Calls Try.prog 54 #[.agg #[.slice (some ⟨gw, 0, none⟩) ws.length cw, .slice (some ⟨gb, 0, none⟩) ws.length ws.length, .int .i64 c0, .int .i64 c1, .int .i64 c2, .int .i64 c3, .int .i64 c4, .int .i64 c5, .int .i64 (-1), .bool false], .int .i64 a] w fun e w' => e = .returned (.bool false) ∧ w' = w.alloc (Obj.cells #[.slice (some ⟨gw, 0, none⟩) ws.length cw, .slice (some ⟨gb, 0, none⟩) ws.length ws.length, .int .i64 c0, .int .i64 c1, .int .i64 c2, .int .i64 c3, .int .i64 c4, .int .i64 c5, .int .i64 (-1), .bool false] 34) := by
  have h2 := kalloc (Obj.cells #[.slice (some ⟨gw, 0, none⟩) ws.length cw, .slice (some ⟨gb, 0, none⟩) ws.length ws.length, .int .i64 c0, .int .i64 c1, .int .i64 c2, .int .i64 c3, .int .i64 c4, .int .i64 c5, .int .i64 (-1), .bool false] 34) (hm.mark a ha)
  have t1 : decide (ws.length ≤ a) = false := by simp; omega
  have hmost := hm.most
  clear hm
  generalize ws.length = n at *
  have hal : (a : Int) < (n : Int) := by omega
  have ha0 : (0 : Int) ≤ (a : Int) := by omega
  clear ha
  go_enter Try.func54, Try.ntmps54
  go_wp2
  go_ret
  exact ⟨rfl, rfl⟩
end Go.Proofs.Ytjmooohhndjmiaa
