/- contracts of mem's Load, Store, Swap. -/
import Derived.Test.YtjmooohhndjmiaaMem
namespace Go.Proofs.Ytjmooohhndjmiaa
open Go.RowKit

theorem MemAt.set {w : World} {b bw bb : Nat} {ws : List Nat} (h : MemAt w b bw bb ws) (a x : Nat) (hx : x < 18446744073709551616) : MemAt (w.setCell ⟨bw, a, none⟩ (.int .u64 (x : Nat))) b bw bb (ws.set a x) := by
  refine ⟨?_, ?_, ?_, h.ne1, h.ne2, h.ne3, by rw [List.length_set]; exact h.pos, by rw [List.length_set]; exact h.most, ?_⟩
  · obtain ⟨c0, c1, c2, c3, c4, c5, hb⟩ := h.top
    rw [List.length_set]
    exact ⟨_, _, _, _, _, _, hb.other _ _ h.ne1⟩
  · have := h.words.set a (.int .u64 (x : Nat))
    unfold wordVals at *
    rwa [← List.map_set] at this
  · rw [List.length_set]; exact h.marks.other _ _ h.ne3.symm
  · intro y hy
    rcases List.mem_or_eq_of_mem_set hy with h1 | h1
    · exact h.fit y h1
    · subst h1; exact hx
theorem MemAt.word {w : World} {b bw bb : Nat} {ws : List Nat} (h : MemAt w b bw bb ws) (a : Nat) (ha : a < ws.length) : w.cell? ⟨bw, a, none⟩ = some (.int .u64 (ws.getD a 0 : Nat)) ∧ w.frozen? ⟨bw, a, none⟩ = false := by
  refine ⟨?_, h.words.free a⟩
  rw [h.words.cell a]
  simp [wordVals, List.getD, ha]
theorem MemAt.other {w : World} {b bw bb : Nat} {ws : List Nat} (h : MemAt w b bw bb ws) (p : Addr) (u : Value) (h1 : b ≠ p.block) (h2 : bw ≠ p.block) (h3 : bb ≠ p.block) : MemAt (w.setCell p u) b bw bb ws :=
  ⟨by obtain ⟨c0, c1, c2, c3, c4, c5, hb⟩ := h.top; exact ⟨_, _, _, _, _, _, hb.other _ _ h1⟩, h.words.other _ _ h2, h.marks.other _ _ h3, h.ne1, h.ne2, h.ne3, h.pos, h.most, h.fit⟩
theorem MemAt.alloc {w : World} {b bw bb : Nat} {ws : List Nat} (h : MemAt w b bw bb ws) (o : Obj) : MemAt (w.alloc o) b bw bb ws :=
  ⟨by obtain ⟨c0, c1, c2, c3, c4, c5, hb⟩ := h.top; exact ⟨_, _, _, _, _, _, hb.alloc _⟩, h.words.alloc _, h.marks.alloc _, h.ne1, h.ne2, h.ne3, h.pos, h.most, h.fit⟩
theorem MemAt.lt {w : World} {b bw bb : Nat} {ws : List Nat} (h : MemAt w b bw bb ws) : b < w.heap.size ∧ bw < w.heap.size ∧ bb < w.heap.size := by
  obtain ⟨c0, c1, c2, c3, c4, c5, hb⟩ := h.top
  exact ⟨hb.lt, h.words.lt, h.marks.lt⟩
theorem MemAt.getD_lt {w : World} {b bw bb : Nat} {ws : List Nat} (h : MemAt w b bw bb ws) (a : Nat) : ws.getD a 0 < 18446744073709551616 := by
  rcases Nat.lt_or_ge a ws.length with h1 | h1
  · have : ws.getD a 0 = ws[a] := by simp [List.getD, h1]
    rw [this]; exact h.fit _ (List.getElem_mem h1)
  · simp [List.getD, h1]

theorem load_calls (b bw bb : Nat) (ws : List Nat) (a : Nat) (w : World) (hm : MemAt w b bw bb ws) (ha : a < ws.length) :
    Calls Try.prog 21 #[.pointer (some ⟨b, 0, none⟩), .int .i64 a] w fun e w' => e = .returned (.int .u64 (ws.getD a 0 : Nat)) ∧ MemAt w' b bw bb ws ∧ Chg (fun k => k = b) w w' := by
  obtain ⟨l1, l2, l3⟩ := hm.lt
  obtain ⟨W, hW⟩ : ∃ W, W = w.alloc (.cells #[.int .u64 0] 40) := ⟨_, rfl⟩
  have hmW : MemAt W b bw bb ws := by rw [hW]; exact hm.alloc _
  have hp : Blk W w.heap.size 40 [.int .u64 0] := by rw [hW]; exact Blk.new w 40 [.int .u64 0]
  have hcW : Chg (fun k => k = b) w W := by rw [hW]; exact (Chg.refl _ _).alloc _
  have hu := useL_calls b bw bb ws a ⟨w.heap.size, 0, none⟩ W (fun w' => MemAt w' b bw bb ws ∧ Chg (fun k => k = b) w w' ∧ Blk w' w.heap.size 40 [.int .u64 (ws.getD a 0 : Nat)]) hmW ha (by
    intro w1 hm1 hc1
    have hp1 : Blk w1 w.heap.size 40 [.int .u64 0] := hp.chg hc1 (by omega)
    obtain ⟨g0, _⟩ := hm1.word a ha
    have g1 : w1.cell? ⟨w.heap.size, 0, none⟩ = some (.int .u64 0) := hp1.cell 0
    have g2 := hp1.free 0
    have HF := Lib.hid (show MemAt (w1.setCell ⟨w.heap.size, 0, none⟩ (.int .u64 (ws.getD a 0 : Nat))) b bw bb ws ∧ Chg (fun k => k = b) w (w1.setCell ⟨w.heap.size, 0, none⟩ (.int .u64 (ws.getD a 0 : Nat))) ∧ Blk (w1.setCell ⟨w.heap.size, 0, none⟩ (.int .u64 (ws.getD a 0 : Nat))) w.heap.size 40 [.int .u64 (ws.getD a 0 : Nat)] from
      ⟨hm1.other _ _ (by simp; omega) (by simp; omega) (by simp; omega), (hcW.trans hc1 (fun _ _ h => h)).setCell _ _ (fun h => by simp at h), hp1.set 0 _⟩)
    clear hm1 hc1 hp1 hp hcW hmW hW
    generalize ws.getD a 0 = x at *
    go_enter Try.func45, Try.ntmps45
    go_wp2
    go_end0
    exact ⟨rfl, HF.out⟩)
  obtain ⟨x, hx⟩ : ∃ x, ws.getD a 0 = x := ⟨_, rfl⟩
  rw [hx] at hu ⊢
  have HU := Lib.hid hu
  have hmf : ∀ (fn : Fn) (first cap : Array Value) (w : World), (Instr.makeFunc fn first cap).run Try.prog w = .ok (.func fn first cap) w := fun _ _ _ _ => rfl
  clear hu hp hcW hmW hx
  go_enter Try.func21, Try.ntmps21
  go_wp2_with fail
  rw [← hW]
  refine HU.out.mono ?_; rintro e w' ⟨rfl, hm', hc', hp'⟩
  have g1 : w'.cell? ⟨w.heap.size, 0, none⟩ = some (.int .u64 (x : Nat)) := hp'.cell 0
  have g2 := hp'.free 0
  have HF := Lib.hid (show MemAt (w'.setCell ⟨w.heap.size, 0, none⟩ (.int .u64 (x : Nat))) b bw bb ws ∧ Chg (fun k => k = b) w (w'.setCell ⟨w.heap.size, 0, none⟩ (.int .u64 (x : Nat))) from
      ⟨hm'.other _ _ (by simp; omega) (by simp; omega) (by simp; omega), hc'.setCell _ _ (fun h => by simp at h)⟩)
  have g3 : (w'.setCell ⟨w.heap.size, 0, none⟩ (.int .u64 (x : Nat))).cell? ⟨w.heap.size, 0, none⟩ = some (.int .u64 (x : Nat)) := (hp'.set 0 _).cell 0
  clear hm' hc' hp' HU hW hm l1 l2 l3
  go_wp2
  refine bodyPost_ret (v := .int .u64 x) (by simp [results, Try.results21, go_sem, g3]) rfl ⟨rfl, HF.out⟩

theorem store_calls (b bw bb : Nat) (ws : List Nat) (a x : Nat) (w : World) (hm : MemAt w b bw bb ws) (ha : a < ws.length) (hx : x < 18446744073709551616) :
    Calls Try.prog 10 #[.pointer (some ⟨b, 0, none⟩), .int .i64 a, .int .u64 x] w fun e w' => e = .returned (.tuple #[]) ∧ MemAt w' b bw bb (ws.set a x) ∧ Chg (fun k => k = b ∨ k = bw) w w' := by
  obtain ⟨l1, l2, l3⟩ := hm.lt
  obtain ⟨W, hW⟩ : ∃ W, W = w.alloc (.cells #[.int .u64 x] 40) := ⟨_, rfl⟩
  have hmW : MemAt W b bw bb ws := by rw [hW]; exact hm.alloc _
  have hp : Blk W w.heap.size 40 [.int .u64 x] := by rw [hW]; exact Blk.new w 40 [.int .u64 x]
  have hcW : Chg (fun k => k = b ∨ k = bw) w W := by rw [hW]; exact (Chg.refl _ _).alloc _
  have hu := useS_calls b bw bb ws a ⟨w.heap.size, 0, none⟩ W (fun w' => MemAt w' b bw bb (ws.set a x) ∧ Chg (fun k => k = b ∨ k = bw) w w') hmW ha (by
    intro w1 hm1 hc1
    have hp1 : Blk w1 w.heap.size 40 [.int .u64 x] := hp.chg hc1 (by omega)
    obtain ⟨g0, z0⟩ := hm1.word a ha
    have g1 : w1.cell? ⟨w.heap.size, 0, none⟩ = some (.int .u64 x) := hp1.cell 0
    have HF := Lib.hid (show MemAt (w1.setCell ⟨bw, a, none⟩ (.int .u64 x)) b bw bb (ws.set a x) ∧ Chg (fun k => k = b ∨ k = bw) w (w1.setCell ⟨bw, a, none⟩ (.int .u64 x)) from
      ⟨hm1.set a x hx, (hcW.trans hc1 (fun _ _ h => .inl h)).setCell _ _ (fun _ => .inr rfl)⟩)
    clear hm1 hc1 hp1 hp hcW hmW hW
    generalize ws.getD a 0 = y at *
    go_enter Try.func30, Try.ntmps30
    go_wp2
    go_end0
    exact ⟨rfl, HF.out⟩)
  have HU := Lib.hid hu
  have hmf : ∀ (fn : Fn) (first cap : Array Value) (w : World), (Instr.makeFunc fn first cap).run Try.prog w = .ok (.func fn first cap) w := fun _ _ _ _ => rfl
  clear hu hp hcW hmW
  go_enter Try.func10, Try.ntmps10
  go_wp2_with fail
  rw [← hW]
  refine HU.out.mono ?_; rintro e w' ⟨rfl, hm', hc'⟩
  go_wp2
  go_end0
  exact ⟨rfl, hm', hc'⟩

theorem swap_calls (b bw bb : Nat) (ws : List Nat) (a x y : Nat) (w : World) (hm : MemAt w b bw bb ws) (ha : a < ws.length) (hy : y < 18446744073709551616) :
    Calls Try.prog 23 #[.pointer (some ⟨b, 0, none⟩), .int .i64 a, .int .u64 x, .int .u64 y] w fun e w' => e = .returned (.bool (decide (ws.getD a 0 = x))) ∧ MemAt w' b bw bb (if ws.getD a 0 = x then ws.set a y else ws) ∧ Chg (fun k => k = b ∨ k = bw) w w' := by
  obtain ⟨l1, l2, l3⟩ := hm.lt
  obtain ⟨W, hW⟩ : ∃ W, W = ((w.alloc (.cells #[.int .u64 x] 40)).alloc (.cells #[.int .u64 y] 40)).alloc (.cells #[.bool false] 4) := ⟨_, rfl⟩
  have hmW : MemAt W b bw bb ws := by rw [hW]; exact ((hm.alloc _).alloc _).alloc _
  have hp : Blk W w.heap.size 40 [.int .u64 x] := by rw [hW]; exact ((Blk.new w 40 [.int .u64 x]).alloc _).alloc _
  have hq : Blk W (w.heap.size + 1) 40 [.int .u64 y] := by rw [hW]; have := (Blk.new (w.alloc (.cells #[.int .u64 x] 40)) 40 [.int .u64 y]).alloc (.cells #[.bool false] 4); simpa using this
  have ho : Blk W (w.heap.size + 1 + 1) 4 [.bool false] := by rw [hW]; have := Blk.new ((w.alloc (.cells #[.int .u64 x] 40)).alloc (.cells #[.int .u64 y] 40)) 4 [.bool false]; simpa using this
  have hcW : Chg (fun k => k = b ∨ k = bw) w W := by rw [hW]; exact (((Chg.refl _ _).alloc _).alloc _).alloc _
  have hu := useW_calls b bw bb ws a ⟨w.heap.size, 0, none⟩ ⟨w.heap.size + 1 + 1, 0, none⟩ ⟨w.heap.size + 1, 0, none⟩ W (fun w' => MemAt w' b bw bb (if ws.getD a 0 = x then ws.set a y else ws) ∧ Chg (fun k => k = b ∨ k = bw) w w' ∧ Blk w' (w.heap.size + 1 + 1) 4 [.bool (decide (ws.getD a 0 = x))]) hmW ha (by
    intro w1 hm1 hc1
    have hp1 : Blk w1 w.heap.size 40 [.int .u64 x] := hp.chg hc1 (by omega)
    have hq1 : Blk w1 (w.heap.size + 1) 40 [.int .u64 y] := hq.chg hc1 (by omega)
    have ho1 : Blk w1 (w.heap.size + 1 + 1) 4 [.bool false] := ho.chg hc1 (by omega)
    obtain ⟨g0, z0⟩ := hm1.word a ha
    have g1 : w1.cell? ⟨w.heap.size, 0, none⟩ = some (.int .u64 x) := hp1.cell 0
    have g2 : w1.cell? ⟨w.heap.size + 1, 0, none⟩ = some (.int .u64 y) := hq1.cell 0
    have g3 : w1.cell? ⟨w.heap.size + 1 + 1, 0, none⟩ = some (.bool false) := ho1.cell 0
    have z3 := ho1.free 0
    have nb : w.heap.size + 1 + 1 ≠ bw := by omega
    have hc2 : Chg (fun k => k = b ∨ k = bw) w w1 := hcW.trans hc1 (fun _ _ h => .inl h)
    by_cases he : ws.getD a 0 = x
    · rw [if_pos he, decide_eq_true he]
      have HF := Lib.hid (show MemAt ((w1.setCell ⟨w.heap.size + 1 + 1, 0, none⟩ (.bool true)).setCell ⟨bw, a, none⟩ (.int .u64 y)) b bw bb (ws.set a y) ∧ Chg (fun k => k = b ∨ k = bw) w ((w1.setCell ⟨w.heap.size + 1 + 1, 0, none⟩ (.bool true)).setCell ⟨bw, a, none⟩ (.int .u64 y)) ∧ Blk ((w1.setCell ⟨w.heap.size + 1 + 1, 0, none⟩ (.bool true)).setCell ⟨bw, a, none⟩ (.int .u64 y)) (w.heap.size + 1 + 1) 4 [.bool true] from
        ⟨(hm1.other _ _ (by simp; omega) (by simp; omega) (by simp; omega)).set a y hy, (hc2.setCell _ _ (fun h => by simp at h; omega)).setCell _ _ (fun _ => .inr rfl), (ho1.set 0 _).other _ _ nb⟩)
      rw [he] at g0
      clear hm1 hc1 hp1 hq1 ho1 hp hq ho hcW hmW hW hc2 he
      go_enter Try.func46, Try.ntmps46
      go_wp2
      go_region
      go_wp2
      go_end0
      exact ⟨rfl, HF.out.1.drew, HF.out.2.1.drew, HF.out.2.2⟩
    · rw [if_neg he, decide_eq_false he]
      have HF := Lib.hid (show MemAt (w1.setCell ⟨w.heap.size + 1 + 1, 0, none⟩ (.bool false)) b bw bb ws ∧ Chg (fun k => k = b ∨ k = bw) w (w1.setCell ⟨w.heap.size + 1 + 1, 0, none⟩ (.bool false)) ∧ Blk (w1.setCell ⟨w.heap.size + 1 + 1, 0, none⟩ (.bool false)) (w.heap.size + 1 + 1) 4 [.bool false] from
        ⟨hm1.other _ _ (by simp; omega) (by simp; omega) (by simp; omega), hc2.setCell _ _ (fun h => by simp at h; omega), ho1.set 0 _⟩)
      have hne : (((ws.getD a 0 : Nat) : Int) == (x : Int)) = false := by rw [beq_eq_false_iff_ne]; omega
      clear hm1 hc1 hp1 hq1 ho1 hp hq ho hcW hmW hW hc2 he
      generalize ws.getD a 0 = v at *
      go_enter Try.func46, Try.ntmps46
      go_wp2
      go_region
      go_wp2
      go_end0
      exact ⟨rfl, HF.out.1.drew, HF.out.2.1.drew, HF.out.2.2⟩)
  obtain ⟨v, hv⟩ : ∃ v, decide (ws.getD a 0 = x) = v := ⟨_, rfl⟩
  obtain ⟨us, hus⟩ : ∃ us, (if ws.getD a 0 = x then ws.set a y else ws) = us := ⟨_, rfl⟩
  rw [hv, hus] at hu ⊢
  have HU := Lib.hid hu
  have hmf : ∀ (fn : Fn) (first cap : Array Value) (w : World), (Instr.makeFunc fn first cap).run Try.prog w = .ok (.func fn first cap) w := fun _ _ _ _ => rfl
  clear hu hp hcW hmW hq ho hv hus hy
  go_enter Try.func23, Try.ntmps23
  go_wp2_with fail
  rw [← hW]
  refine HU.out.mono ?_; rintro e w' ⟨rfl, hm', hc', ho'⟩
  have g1 : w'.cell? ⟨w.heap.size + 1 + 1, 0, none⟩ = some (.bool v) := ho'.cell 0
  have g2 := ho'.free 0
  have HF := Lib.hid (show MemAt (w'.setCell ⟨w.heap.size + 1 + 1, 0, none⟩ (.bool v)) b bw bb us ∧ Chg (fun k => k = b ∨ k = bw) w (w'.setCell ⟨w.heap.size + 1 + 1, 0, none⟩ (.bool v)) from
      ⟨hm'.other _ _ (by simp; omega) (by simp; omega) (by simp; omega), hc'.setCell _ _ (fun h => by simp at h; omega)⟩)
  have g3 : (w'.setCell ⟨w.heap.size + 1 + 1, 0, none⟩ (.bool v)).cell? ⟨w.heap.size + 1 + 1, 0, none⟩ = some (.bool v) := (ho'.set 0 _).cell 0
  clear hm' hc' ho' HU hW hm l1 l2 l3
  go_wp2
  refine bodyPost_ret (v := .bool v) (by simp [results, Try.results23, go_sem, g3]) rfl ⟨rfl, HF.out⟩
end Go.Proofs.Ytjmooohhndjmiaa
